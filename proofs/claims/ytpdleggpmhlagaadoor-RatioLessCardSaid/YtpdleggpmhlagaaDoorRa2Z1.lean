/- Part 1 of what the law's proof needs: rules of the walk, contracts of functions, plain laws. No condition. -/
import Derived.WalkKit
import Derived.Deep.Quiet
import Derived.KernelRfl
import Derived.Deep.AppendSrc
import Derived.Laws.MakeOwn
import Derived.StillTail
import Derived.Laws.Tables
import Derived.Great.BuildSlice
import Derived.OrdersHeld
import Derived.Laws.Strings
import Derived.WideShapes
import Derived.Laws.StructEq
import Derived.Laws.Concat
import Derived.Laws.IdiomStrings
import Derived.Laws.BitsAll
/- The judgement of states: what is known of a frame's slots (a list), of memory that stays as it is (m), and of what the function owns (a list of resources); the rules of the plain code. -/
set_option linter.unusedSimpArgs false
set_option linter.unusedVariables false
set_option linter.unusedSectionVars false
set_option maxRecDepth 20000
namespace Go.J
open Go

def flat {α : Type} : List α → Option (List α)
  | [] => some []
  | x :: xs => match flat xs with
    | some r => some (x :: r)
    | none => none
theorem flat_eq {α : Type} : ∀ (l r : List α), flat l = some r → r = l
  | [], _, h => by cases h; rfl
  | x :: xs, r, h => by
    simp only [flat] at h
    cases hh : flat xs with
    | none => rw [hh] at h; cases h
    | some r' => rw [hh] at h; cases h; rw [flat_eq xs r' hh]
theorem flat_self {α : Type} : ∀ (l : List α), flat l = some l
  | [] => rfl
  | x :: xs => by simp only [flat, flat_self xs]

abbrev Fr := List (Nat × Value)

def look (t : Nat) : Fr → Option Value
  | [] => none
  | (u, v) :: r => match Nat.beq u t with
    | true => some v
    | false => look t r

structure HF (n : Nat) (F : Fr) (a : Act) : Prop where
  dfr : a.defers = []
  siz : a.tmps.size = n
  val : ∀ t v, look t F = some v → a.tmps.getD t undef = v

theorem look_cons (t u : Nat) (v : Value) (r : Fr) : look t ((u, v) :: r) = if u = t then some v else look t r := by
  by_cases h : u = t
  · simp [look, h]
  · have : Nat.beq u t = false := by
      cases hb : Nat.beq u t
      · rfl
      · exact absurd (Nat.eq_of_beq_eq_true hb) h
    simp [look, this, h]

theorem HF.put {n : Nat} {F : Fr} {a : Act} {d : Nat} {v : Value} (h : HF n F a) (hd : Nat.blt d n = true) : HF n ((d, v) :: F) (a.put (some d) v) := by
  have hd' : d < n := Nat.lt_of_lt_of_le (Nat.lt_succ_self d) (Nat.le_of_ble_eq_true hd)
  refine ⟨h.dfr, by simp [Act.put, h.siz], fun t u hu => ?_⟩
  rw [look_cons] at hu
  by_cases e : d = t
  · subst e
    rw [if_pos rfl] at hu
    cases hu
    simp [Act.put, h.siz, hd']
  · rw [if_neg e] at hu
    have := h.val t u hu
    simp only [Act.put, Array.getD_eq_getD_getElem?] at this ⊢
    rw [Array.getElem?_setIfInBounds_ne e]
    exact this

theorem HF.putN {n : Nat} {F : Fr} {a : Act} {v : Value} (h : HF n F a) : HF n F (a.put none v) := h

theorem HF.note {n : Nat} {F : Fr} {a : Act} {t : Nat} {v v' : Value} (h : HF n F a) (ht : look t F = some v) (e : v = v') : HF n ((t, v') :: F) a := by
  refine ⟨h.dfr, h.siz, fun t' u hu => ?_⟩
  rw [look_cons] at hu
  by_cases e' : t = t'
  · subst e'
    rw [if_pos rfl] at hu
    cases hu
    rw [h.val t v ht, e]
  · rw [if_neg e'] at hu
    exact h.val t' u hu

/-- every entry of the first list is known by the second -/
def Subs : Fr → Fr → Prop
  | [], _ => True
  | (t, v) :: r, F => look t F = some v ∧ Subs r F

theorem Subs.look {F' F : Fr} (h : Subs F' F) {t : Nat} {v : Value} (ht : look t F' = some v) : look t F = some v := by
  induction F' with
  | nil => cases ht
  | cons p r ih =>
    obtain ⟨u, x⟩ := p
    rw [look_cons] at ht
    by_cases e : u = t
    · subst e
      rw [if_pos rfl] at ht
      cases ht
      exact h.1
    · rw [if_neg e] at ht
      exact ih h.2 ht

theorem HF.weaken {n : Nat} {F F' : Fr} {a : Act} (h : HF n F a) (hs : Subs F' F) : HF n F' a :=
  ⟨h.dfr, h.siz, fun t v ht => h.val t v (hs.look ht)⟩

def ev (F : Fr) : Operand → Option Value
  | .tmp t => look t F
  | .const v => some v
  | .global g => some (.pointer (some ⟨g, 0, none⟩))
  | .func f => some (.func (.func f) #[] #[])

theorem HF.ev {n : Nat} {F : Fr} {a : Act} {x : Operand} {v : Value} (h : HF n F a) (hx : J.ev F x = some v) : a.eval x = v := by
  cases x with
  | tmp t => exact h.val t v hx
  | const u => cases hx; rfl
  | global g => cases hx; rfl
  | func f => cases hx; rfl

/-! ### memory -/
abbrev Mem := Nat → Option Obj

def Mem.le (m m' : Mem) : Prop := ∀ k o, m k = some o → m' k = some o
theorem Mem.le_refl (m : Mem) : m.le m := fun _ _ h => h
theorem Mem.le_trans {a b c : Mem} (h : a.le b) (k : b.le c) : a.le c := fun i o hi => k i o (h i o hi)

structure Res where
  p : World → (Nat → Prop) → Prop
  loc : ∀ {w w' : World} {s : Nat → Prop}, p w s → (∀ k, s k → w'.heap[k]? = w.heap[k]?) → p w' s
  dom : ∀ {w : World} {s : Nat → Prop} {k : Nat}, p w s → s k → k < w.heap.size

def Sat : List Res → World → (Nat → Prop) → Prop
  | [], _, s => ∀ k, ¬ s k
  | R :: Rs, w, s => ∃ s1 s2 : Nat → Prop, R.p w s1 ∧ Sat Rs w s2 ∧ (∀ k, ¬ (s1 k ∧ s2 k)) ∧ (∀ k, s k ↔ s1 k ∨ s2 k)

theorem Sat.loc {Rs : List Res} {w w' : World} {s : Nat → Prop} (h : Sat Rs w s) (he : ∀ k, s k → w'.heap[k]? = w.heap[k]?) : Sat Rs w' s := by
  induction Rs generalizing s with
  | nil => exact h
  | cons R Rs ih =>
    obtain ⟨s1, s2, h1, h2, hd, hs⟩ := h
    exact ⟨s1, s2, R.loc h1 (fun k hk => he k ((hs k).2 (.inl hk))), ih h2 (fun k hk => he k ((hs k).2 (.inr hk))), hd, hs⟩

theorem Sat.dom {Rs : List Res} {w : World} {s : Nat → Prop} (h : Sat Rs w s) {k : Nat} (hk : s k) : k < w.heap.size := by
  induction Rs generalizing s with
  | nil => exact absurd hk (h k)
  | cons R Rs ih =>
    obtain ⟨s1, s2, h1, h2, hd, hs⟩ := h
    rcases (hs k).1 hk with h' | h'
    · exact R.dom h1 h'
    · exact ih h2 h'

structure HW (w0 : World) (m : Mem) (Rs : List Res) (w : World) : Prop where
  os : w.os = w0.os
  tape : w.tape = w0.tape
  output : w.output = w0.output
  size : w0.heap.size ≤ w.heap.size
  mem : ∀ k o, m k = some o → w.heap[k]? = some o
  res : ∃ s, Sat Rs w s ∧ ∀ k, s k → m k = none

/-- one resource out of a list -/
inductive Pick : List Res → Res → List Res → Prop
  | here {R : Res} {Rs : List Res} : Pick (R :: Rs) R Rs
  | there {X R : Res} {Rs Rs' : List Res} : Pick Rs R Rs' → Pick (X :: Rs) R (X :: Rs')

theorem Sat.pick {Rs Rs' : List Res} {R : Res} (hp : Pick Rs R Rs') {w : World} {s : Nat → Prop} : Sat Rs w s ↔ Sat (R :: Rs') w s := by
  induction hp generalizing s with
  | here => exact Iff.rfl
  | @there X R Rs Rs' hp ih =>
    constructor
    · rintro ⟨s1, s2, h1, h2, hd, hs⟩
      obtain ⟨s3, s4, h3, h4, hd', hs'⟩ := (ih).1 h2
      refine ⟨s3, fun k => s1 k ∨ s4 k, h3, ⟨s1, s4, h1, h4, fun k ⟨x, y⟩ => hd k ⟨x, (hs' k).2 (.inr y)⟩, fun k => Iff.rfl⟩, ?_, ?_⟩
      · rintro k ⟨x, y | y⟩
        · exact hd k ⟨y, (hs' k).2 (.inl x)⟩
        · exact hd' k ⟨x, y⟩
      · intro k
        rw [hs, hs']
        constructor
        · rintro (x | x | x)
          · exact .inr (.inl x)
          · exact .inl x
          · exact .inr (.inr x)
        · rintro (x | x | x)
          · exact .inr (.inl x)
          · exact .inl x
          · exact .inr (.inr x)
    · rintro ⟨s3, s5, h3, ⟨s1, s4, h1, h4, hd', hs'⟩, hd, hs⟩
      refine ⟨s1, fun k => s3 k ∨ s4 k, h1, (ih).2 ⟨s3, s4, h3, h4, fun k ⟨x, y⟩ => hd k ⟨x, (hs' k).2 (.inr y)⟩, fun k => Iff.rfl⟩, ?_, ?_⟩
      · rintro k ⟨x, y | y⟩
        · exact hd k ⟨y, (hs' k).2 (.inl x)⟩
        · exact hd' k ⟨x, y⟩
      · intro k
        rw [hs, hs']
        constructor
        · rintro (x | x | x)
          · exact .inr (.inl x)
          · exact .inl x
          · exact .inr (.inr x)
        · rintro (x | x | x)
          · exact .inr (.inl x)
          · exact .inl x
          · exact .inr (.inr x)

/-- what holds of a state's lists holds of others -/
def Ent (Rs Rs' : List Res) : Prop := ∀ w s, Sat Rs w s → ∃ s', Sat Rs' w s' ∧ ∀ k, s' k → s k

theorem Ent.refl (Rs : List Res) : Ent Rs Rs := fun _ s h => ⟨s, h, fun _ x => x⟩
theorem Ent.trans {A B C : List Res} (h : Ent A B) (h' : Ent B C) : Ent A C := fun w s hs =>
  let ⟨s1, h1, e1⟩ := h w s hs
  let ⟨s2, h2, e2⟩ := h' w s1 h1
  ⟨s2, h2, fun k x => e1 k (e2 k x)⟩
theorem Ent.of_pick {Rs Rs' : List Res} {R : Res} (hp : Pick Rs R Rs') : Ent Rs (R :: Rs') := fun _ s h => ⟨s, (Sat.pick hp).1 h, fun _ x => x⟩
theorem Ent.to_pick {Rs Rs' : List Res} {R : Res} (hp : Pick Rs R Rs') : Ent (R :: Rs') Rs := fun _ s h => ⟨s, (Sat.pick hp).2 h, fun _ x => x⟩
theorem Ent.drop (R : Res) (Rs : List Res) : Ent (R :: Rs) Rs := fun _ _ ⟨_, s2, _, h2, _, hs⟩ => ⟨s2, h2, fun k x => (hs k).2 (.inr x)⟩
theorem Ent.cons (R : Res) {Rs Rs' : List Res} (h : Ent Rs Rs') : Ent (R :: Rs) (R :: Rs') := fun w _ ⟨s1, s2, h1, h2, hd, hs⟩ =>
  let ⟨s3, h3, e3⟩ := h w s2 h2
  ⟨fun k => s1 k ∨ s3 k, ⟨s1, s3, h1, h3, fun k ⟨x, y⟩ => hd k ⟨x, e3 k y⟩, fun _ => Iff.rfl⟩, fun k x => (hs k).2 (x.imp id (e3 k))⟩
/-- all of the second are among the first, in whatever order -/
theorem Ent.take {Rs Rs' Rs2 : List Res} {R : Res} (hp : Pick Rs R Rs') (h : Ent Rs' Rs2) : Ent Rs (R :: Rs2) := (Ent.of_pick hp).trans (Ent.cons R h)
theorem Ent.nil (Rs : List Res) : Ent Rs [] := fun _ _ _ => ⟨fun _ => False, fun _ h => h, fun _ h => h.elim⟩

theorem HW.ent {w0 : World} {m : Mem} {Rs Rs' : List Res} {w : World} (h : HW w0 m Rs w) (he : Ent Rs Rs') : HW w0 m Rs' w :=
  let ⟨s, hs, hm⟩ := h.res
  let ⟨s', hs', e⟩ := he w s hs
  ⟨h.os, h.tape, h.output, h.size, h.mem, s', hs', fun k x => hm k (e k x)⟩

theorem HW.weak {w0 : World} {m m' : Mem} {Rs : List Res} {w : World} (h : HW w0 m' Rs w) (hm : m.le m') : HW w0 m Rs w :=
  let ⟨s, hs, he⟩ := h.res
  ⟨h.os, h.tape, h.output, h.size, fun k o x => h.mem k o (hm k o x), s, hs, fun k x => by
    have := he k x
    cases hk : m k with
    | none => rfl
    | some o => rw [hm k o hk] at this; cases this⟩

theorem HW.drawn {w0 : World} {m : Mem} {Rs : List Res} {w : World} (h : HW w0 m Rs w) (n : Nat) : HW w0 m Rs { w with drawn := n } :=
  let ⟨s, hs, he⟩ := h.res
  ⟨h.os, h.tape, h.output, h.size, h.mem, s, Sat.loc hs (fun _ _ => rfl), he⟩

theorem HW.get {w0 : World} {m : Mem} {Rs Rs' : List Res} {R : Res} {w : World} (h : HW w0 m Rs w) (hp : Pick Rs R Rs') : ∃ s, R.p w s :=
  let ⟨_, hs, _⟩ := (h.ent (Ent.of_pick hp)).res
  let ⟨s1, _, h1, _⟩ := hs
  ⟨s1, h1⟩

/-- a state: 'K' holds wherever the lists do -/
def At (n : Nat) (w0 : World) (F : Fr) (m : Mem) (Rs : List Res) (K : Act → World → Prop) : Prop :=
  ∀ a w, HF n F a → HW w0 m Rs w → K a w

/-- A call's contract, the frame baked in. -/
def Ct (P : Program) (f : FuncId) (args : Array Value) (m : Mem) (A : List Res) (R : Value → Mem → List Res → Prop) : Prop :=
  ∀ w0 Rest w, HW w0 m (A ++ Rest) w → Calls P f args w fun e w' => ∃ v m' B, e = .returned v ∧ m.le m' ∧ R v m' B ∧ HW w0 m' (B ++ Rest) w'

theorem Ct.mono {P : Program} {f : FuncId} {args : Array Value} {m : Mem} {A : List Res} {R R' : Value → Mem → List Res → Prop} (h : Ct P f args m A R) (hr : ∀ v m' B, m.le m' → R v m' B → R' v m' B) : Ct P f args m A R' :=
  fun w0 Rest w hw => (h w0 Rest w hw).mono fun _ _ ⟨v, m', B, he, hm, hR, hw'⟩ => ⟨v, m', B, he, hm, hr v m' B hm hR, hw'⟩

section
variable {P : Program} {n : Nat} {w0 : World} {F : Fr} {m : Mem} {Rs : List Res} {Q : Exit → Act → World → Prop} {K : Act → World → Prop}

theorem At.frame {F' : Fr} (hs : Subs F' F) (h : At n w0 F' m Rs K) : At n w0 F m Rs K := fun a w ha hw => h a w (ha.weaken hs) hw
theorem At.ent {Rs' : List Res} (he : Ent Rs Rs') (h : At n w0 F m Rs' K) : At n w0 F m Rs K := fun a w ha hw => h a w ha (hw.ent he)
theorem At.weak {m' : Mem} (hm : m'.le m) (h : At n w0 F m' Rs K) : At n w0 F m Rs K := fun a w ha hw => h a w ha (hw.weak hm)
theorem At.note {t : Nat} {v v' : Value} (ht : look t F = some v) (e : v = v') (h : At n w0 ((t, v') :: F) m Rs K) : At n w0 F m Rs K := fun a w ha hw => h a w (ha.note ht e) hw

/-! ### code -/
theorem At.seq {x y : Code} (h : At n w0 F m Rs (x.wp P (Exit.then (y.wp P Q) Q))) : At n w0 F m Rs ((Code.seq x y).wp P Q) := fun a w ha hw => wp_seq (h a w ha hw)
theorem At.skip (h : At n w0 F m Rs (Q .normal)) : At n w0 F m Rs (Code.skip.wp P Q) := fun a w ha hw => wp_skip (h a w ha hw)
theorem At.ret (h : At n w0 F m Rs (Q .ret)) : At n w0 F m Rs (Code.ret.wp P Q) := fun a w ha hw => wp_ret (h a w ha hw)
theorem At.exit {id : Nat} (h : At n w0 F m Rs (Q (.exit id))) : At n w0 F m Rs ((Code.exit id).wp P Q) := fun a w ha hw => wp_exit (h a w ha hw)
theorem At.block {id : Nat} {c : Code} (h : At n w0 F m Rs (c.wp P (Exit.inBlock id Q))) : At n w0 F m Rs ((Code.block id c).wp P Q) := fun a w ha hw => wp_block (h a w ha hw)
theorem At.cond {c : Operand} {x y : Code} {b : Bool} (hc : ev F c = some (.bool b)) (ht : b = true → At n w0 F m Rs (x.wp P Q)) (hf : b = false → At n w0 F m Rs (y.wp P Q)) :
    At n w0 F m Rs ((Code.cond c x y).wp P Q) := fun a w ha hw => wp_cond_split (ha.ev hc) (fun e => ht e a w ha hw) (fun e => hf e a w ha hw)
theorem At.cond_t {c : Operand} {x y : Code} (hc : ev F c = some (.bool true)) (h : At n w0 F m Rs (x.wp P Q)) : At n w0 F m Rs ((Code.cond c x y).wp P Q) := fun a w ha hw => wp_cond_true (ha.ev hc) (h a w ha hw)
theorem At.cond_f {c : Operand} {x y : Code} (hc : ev F c = some (.bool false)) (h : At n w0 F m Rs (y.wp P Q)) : At n w0 F m Rs ((Code.cond c x y).wp P Q) := fun a w ha hw => wp_cond_false (ha.ev hc) (h a w ha hw)
theorem At.then_n (h : At n w0 F m Rs K) : At n w0 F m Rs (Exit.then K Q .normal) := h
theorem At.then_e {id : Nat} (h : At n w0 F m Rs (Q (.exit id))) : At n w0 F m Rs (Exit.then K Q (.exit id)) := h
theorem At.then_r (h : At n w0 F m Rs (Q .ret)) : At n w0 F m Rs (Exit.then K Q .ret) := h
theorem At.inb_n {id : Nat} (h : At n w0 F m Rs (Q .normal)) : At n w0 F m Rs (Exit.inBlock id Q .normal) := h
theorem At.inb_r {id : Nat} (h : At n w0 F m Rs (Q .ret)) : At n w0 F m Rs (Exit.inBlock id Q .ret) := h
theorem At.inb_here {id : Nat} (h : At n w0 F m Rs (Q .normal)) : At n w0 F m Rs (Exit.inBlock id Q (.exit id)) := fun a w ha hw => by
  simp only [Exit.inBlock, if_true]; exact h a w ha hw
theorem At.inb_past {id id' : Nat} (hne : Nat.beq id' id = false) (h : At n w0 F m Rs (Q (.exit id'))) : At n w0 F m Rs (Exit.inBlock id Q (.exit id')) := fun a w ha hw => by
  have : ¬ id' = id := fun e => by subst e; simp at hne
  simp only [Exit.inBlock, this, if_false]; exact h a w ha hw

/-- a place where ways meet: it is enough that each comes to one of the states 'F' x', .. -/
theorem At.seq_cut {x y : Code} {σ : Type} (Fx : σ → Fr) (mx : σ → Mem) (Rx : σ → List Res) (I : σ → Prop)
    (hx : At n w0 F m Rs (x.wp P (Exit.then (fun a w => ∃ s, I s ∧ HF n (Fx s) a ∧ HW w0 (mx s) (Rx s) w) Q)))
    (hy : ∀ s, I s → At n w0 (Fx s) (mx s) (Rx s) (y.wp P Q)) : At n w0 F m Rs ((Code.seq x y).wp P Q) := fun a w ha hw =>
  wp_seq (Code.wp_mono (fun e a' w' q => by
    cases e <;> first | exact q | (obtain ⟨s, hI, h1, h2⟩ := q; exact hy s hI a' w' h1 h2)) (hx a w ha hw))

/-- a round's end, or a cut's: the state is one of those -/
theorem At.reach {σ : Type} {Fx : σ → Fr} {mx : σ → Mem} {Rx : σ → List Res} {I : σ → Prop} (s : σ) (hI : I s) (hF : Subs (Fx s) F) (hm : (mx s).le m) (hR : Ent Rs (Rx s)) :
    At n w0 F m Rs (fun a w => ∃ s, I s ∧ HF n (Fx s) a ∧ HW w0 (mx s) (Rx s) w) := fun _ _ ha hw => ⟨s, hI, ha.weaken hF, (hw.ent hR).weak hm⟩

/-- a loop: its states 's', what holds of them, and what goes down -/
theorem At.loop {c : Code} {σ : Type} (Fx : σ → Fr) (mx : σ → Mem) (Rx : σ → List Res) (I : σ → Prop) (μ : σ → Nat) (s0 : σ) (h0 : I s0) (hF : Subs (Fx s0) F) (hm : (mx s0).le m) (hR : Ent Rs (Rx s0))
    (round : ∀ s, I s → At n w0 (Fx s) (mx s) (Rx s) (c.wp P (Exit.then (fun a w => ∃ s', (I s' ∧ μ s' < μ s) ∧ HF n (Fx s') a ∧ HW w0 (mx s') (Rx s') w) Q))) :
    At n w0 F m Rs ((Code.loop c).wp P Q) := by
  intro a w ha hw
  intro b k cs
  have key : ∀ N s a w, μ s = N → I s → HF n (Fx s) a → HW w0 (mx s) (Rx s) w →
      ∃ e a' w', Q e a' w' ∧ Arrives P (lone (b.at a (.code c :: .inLoop c :: k)) cs w) b k cs e a' w' := by
    intro N
    induction N using Nat.strongRecOn with
    | _ N ih =>
      intro s a w hN hI ha hw
      obtain ⟨e, a1, w1, hq, harr⟩ := round s hI a w ha hw b (.inLoop c :: k) cs
      cases e with
      | normal =>
        obtain ⟨s', ⟨hI', hlt⟩, h1, h2⟩ := hq
        obtain ⟨e, a2, w2, hq2, harr2⟩ := ih (μ s') (hN ▸ hlt) s' a1 w1 rfl hI' h1 h2
        exact ⟨e, a2, w2, hq2, .of_steps (Steps.trans harr (.one step_inLoop)) harr2⟩
      | exit id => exact ⟨_, a1, w1, hq, .pass (x := .inLoop c) rfl (fun _ _ => .inl (by simp)) harr⟩
      | goto l => exact ⟨_, a1, w1, hq, .pass (x := .inLoop c) rfl (fun _ _ => .inl (by simp)) harr⟩
      | ret => exact ⟨_, a1, w1, hq, .pass (x := .inLoop c) rfl (fun _ _ => .inl (by simp)) harr⟩
      | panic ch => exact ⟨_, a1, w1, hq, .pass (x := .inLoop c) rfl (fun _ _ => .inl (by simp)) harr⟩
      | outgrown => exact ⟨_, a1, w1, hq, .pass (x := .inLoop c) rfl (fun _ _ => .inl (by simp)) harr⟩
  obtain ⟨e, a', w', hq, harr⟩ := key _ s0 a w rfl h0 (ha.weaken hF) ((hw.ent hR).weak hm)
  exact ⟨e, a', w', hq, .of_steps (.one step_loop) harr⟩

/-! ### regions -/
theorem At.region {id : Nat} {l : List Oper} (h : At n w0 F m Rs (wpList P l.toArray Q l)) : At n w0 F m Rs ((Code.region id l.toArray false).wp P Q) := fun a w ha hw => wp_region_lit (h a w ha hw)
theorem At.region' {id : Nat} {ops : Array Oper} (l : List Oper) (e : ops = l.toArray) (h : At n w0 F m Rs (wpList P l.toArray Q l)) : At n w0 F m Rs ((Code.region id ops false).wp P Q) := by
  subst e; exact At.region h
theorem At.nil {ops : Array Oper} (h : At n w0 F m Rs (Q .normal)) : At n w0 F m Rs (wpList P ops Q []) := fun a w ha hw => wpList_nil (h a w ha hw)

/-- an operation that yields a value and leaves the world as it is, wherever 'C' holds -/
def PR (P : Program) (n : Nat) (F : Fr) (C : World → Prop) (op : Op) (v : Value) : Prop :=
  ∀ (d : Option Tmp) (ty : TypeId) (pos : String) (aft : Array Edge) (g : Option (Nat × Bool)) (a : Act) (w : World), HF n F a → C w → (execOp a.eval ⟨d, op, ty, pos, aft, g⟩).run P w = .ok (.value v) w

theorem At.val {ops : Array Oper} {rest : List Oper} {d : Nat} {op : Op} {ty : TypeId} {pos : String} {aft : Array Edge} {v : Value} (hp : PR P n F (HW w0 m Rs) op v) (hd : Nat.blt d n = true)
    (h : At n w0 ((d, v) :: F) m Rs (wpList P ops Q rest)) : At n w0 F m Rs (wpList P ops Q (⟨some d, op, ty, pos, aft, none⟩ :: rest)) := fun a w ha hw =>
  wpList_plain rfl fun K hK => by
    unfold Oper.wp
    rw [hp _ _ _ _ _ a w ha hw]
    exact hK _ _ (h _ _ (ha.put hd) hw)

theorem wanted_dummy : True := trivial

/-- a guard that is known to say yes, or no -/
theorem At.guard_y {ops : Array Oper} {rest : List Oper} {d : Option Tmp} {op : Op} {ty : TypeId} {pos : String} {aft : Array Edge} {j : Nat} {want : Bool} {t : Nat}
    (hj : (ops[j]?).bind (·.dst) = some t) (ht : look t F = some (.bool want)) (htn : Nat.blt t n = true) (h : At n w0 F m Rs (wpList P ops Q (⟨d, op, ty, pos, aft, none⟩ :: rest))) :
    At n w0 F m Rs (wpList P ops Q (⟨d, op, ty, pos, aft, some (j, want)⟩ :: rest)) := fun a w ha hw => by
  have h' := h a w ha hw
  have hv := ha.val t _ ht
  have hlt : t < a.tmps.size := by rw [ha.siz]; exact Nat.le_of_ble_eq_true htn
  have hy : yielded ops a.tmps j = some want := by
    unfold yielded
    rw [hj]
    simp only [Option.bind_some]
    rw [Array.getElem?_eq_getElem hlt]
    simp only [Array.getD_eq_getD_getElem?, Array.getElem?_eq_getElem hlt, Option.getD_some] at hv
    rw [hv]
  unfold wpList at h' ⊢
  rw [if_pos (by simp [Region.wanted])] at h'
  rw [if_pos (by simp [Region.wanted, hy])]
  exact h'

theorem At.guard_n {ops : Array Oper} {rest : List Oper} {d : Nat} {op : Op} {ty : TypeId} {pos : String} {aft : Array Edge} {j : Nat} {want : Bool} {t : Nat} {v : Value}
    (hj : (ops[j]?).bind (·.dst) = some t) (ht : look t F = some v) (hv : v ≠ .bool want) (hd : Nat.blt d n = true) (h : At n w0 ((d, undef) :: F) m Rs (wpList P ops Q rest)) :
    At n w0 F m Rs (wpList P ops Q (⟨some d, op, ty, pos, aft, some (j, want)⟩ :: rest)) := fun a w ha hw => by
  have h' := h _ w (ha.put hd) hw
  have hx := ha.val t _ ht
  have hy : ¬ (yielded ops a.tmps j == some want) = true := by
    unfold yielded
    rw [hj]
    simp only [Option.bind_some]
    rcases Nat.lt_or_ge t a.tmps.size with hlt | hge
    · rw [Array.getElem?_eq_getElem hlt]
      simp only [Array.getD_eq_getD_getElem?, Array.getElem?_eq_getElem hlt, Option.getD_some] at hx
      rw [hx]
      cases v with
      | bool b => simp; intro e; subst e; exact hv rfl
      | _ => simp
    · rw [Array.getElem?_eq_none hge]; simp
  unfold wpList
  rw [if_neg (by simpa [Region.wanted] using hy)]
  exact h'

theorem At.bsplit {t : Nat} {b : Bool} (ht : look t F = some (.bool b)) (h1 : b = true → At n w0 ((t, .bool true) :: F) m Rs K) (h2 : b = false → At n w0 ((t, .bool false) :: F) m Rs K) : At n w0 F m Rs K := by
  cases b
  · exact At.note ht rfl (h2 rfl)
  · exact At.note ht rfl (h1 rfl)

/-! ### the function -/
theorem Ct.enter {f : FuncId} {fn : Func} {c : Code} {args : Array Value} {A : List Res} {R : Value → Mem → List Res → Prop} {N : Nat} (F0 : Fr)
    (hf : P.funcs[f]? = some fn) (hb : fn.body = some c) (hn : fn.ntmps = N) (hargs : Nat.ble args.size N = true)
    (hF : ∀ t v, look t F0 = some v → args[t]? = some v)
    (h : ∀ w0 Rest, At N w0 F0 m (A ++ Rest) (c.wp P (bodyPost P fn (fun e w' => ∃ v m' B, e = .returned v ∧ m.le m' ∧ R v m' B ∧ HW w0 m' (B ++ Rest) w')))) : Ct P f args m A R := by
  intro w0 Rest w hw
  refine calls_of_wp hf hb (h w0 Rest _ w ⟨rfl, ?_, ?_⟩ hw)
  · have := Nat.le_of_ble_eq_true hargs
    simp [hn]; omega
  · intro t v ht
    have := hF t v ht
    have hlt : t < args.size := (Array.getElem?_eq_some_iff.1 this).1
    simp only [Array.getD_eq_getD_getElem?]
    rw [Array.getElem?_append_left hlt, this]
    rfl

def enumF : Nat → List Value → Option Fr
  | _, [] => some []
  | i, v :: vs => match enumF (i + 1) vs with
    | some r => some ((i, v) :: r)
    | none => none
theorem enumF_look : ∀ (vs : List Value) (i : Nat) (F0 : Fr), enumF i vs = some F0 → ∀ t v, look t F0 = some v → i ≤ t ∧ vs[t - i]? = some v
  | [], _, _, h, _, _, hl => by cases h; cases hl
  | u :: vs, i, F0, h, t, v, hl => by
    simp only [enumF] at h
    cases hh : enumF (i + 1) vs with
    | none => rw [hh] at h; cases h
    | some r =>
      rw [hh] at h; cases h
      rw [look_cons] at hl
      by_cases e : i = t
      · subst e; rw [if_pos rfl] at hl; cases hl; simp
      · rw [if_neg e] at hl
        obtain ⟨h1, h2⟩ := enumF_look vs (i + 1) r hh t v hl
        refine ⟨by omega, ?_⟩
        rw [show t - i = (t - (i + 1)) + 1 by omega]
        simpa using h2
theorem Ct.enterV {f : FuncId} {fn : Func} {c : Code} {vs : List Value} {A : List Res} {R : Value → Mem → List Res → Prop} {N : Nat} {F0 : Fr} (hF : enumF 0 vs = some F0)
    (hf : P.funcs[f]? = some fn) (hb : fn.body = some c) (hn : fn.ntmps = N) (hargs : Nat.ble vs.length N = true)
    (h : ∀ w0 Rest, At N w0 F0 m (A ++ Rest) (c.wp P (bodyPost P fn (fun e w' => ∃ v m' B, e = .returned v ∧ m.le m' ∧ R v m' B ∧ HW w0 m' (B ++ Rest) w')))) : Ct P f vs.toArray m A R :=
  Ct.enter F0 hf hb hn (by simpa using hargs) (fun t v ht => by
    have := (enumF_look vs 0 F0 hF t v ht).2
    simpa using this) h

theorem At.ret1 {fn : Func} {R : Value → Mem → List Res → Prop} {m0 : Mem} {Rest B : List Res} {t : Nat} {v : Value} (hr : fn.results = #[.tmp t]) (ht : look t F = some v) (hm : m0.le m) (hR : R v m B) (hB : Ent Rs (B ++ Rest)) :
    At n w0 F m Rs (bodyPost P fn (fun e w' => ∃ v m' B, e = .returned v ∧ m0.le m' ∧ R v m' B ∧ HW w0 m' (B ++ Rest) w') .ret) := fun a w ha hw =>
  ⟨ha.dfr, v, by rw [results_tmp hr]; rw [ha.val t v ht], v, m, B, rfl, hm, hR, hw.ent hB⟩
theorem At.ret2 {fn : Func} {R : Value → Mem → List Res → Prop} {m0 : Mem} {Rest B : List Res} {t u : Nat} {v x : Value} (hr : fn.results = #[.tmp t, .tmp u]) (ht : look t F = some v) (hu : look u F = some x) (hm : m0.le m) (hR : R (.tuple #[v, x]) m B) (hB : Ent Rs (B ++ Rest)) :
    At n w0 F m Rs (bodyPost P fn (fun e w' => ∃ v m' B, e = .returned v ∧ m0.le m' ∧ R v m' B ∧ HW w0 m' (B ++ Rest) w') .ret) := fun a w ha hw =>
  ⟨ha.dfr, _, by rw [results_tmp2 hr]; rw [ha.val t v ht, ha.val u x hu], _, m, B, rfl, hm, hR, hw.ent hB⟩
theorem At.ret0 {fn : Func} {R : Value → Mem → List Res → Prop} {m0 : Mem} {Rest B : List Res} (hr : fn.results = #[]) (hm : m0.le m) (hR : R (.tuple #[]) m B) (hB : Ent Rs (B ++ Rest)) :
    At n w0 F m Rs (bodyPost P fn (fun e w' => ∃ v m' B, e = .returned v ∧ m0.le m' ∧ R v m' B ∧ HW w0 m' (B ++ Rest) w') .normal) := fun a w ha hw =>
  ⟨ha.dfr, _, by rw [results_none hr], _, m, B, rfl, hm, hR, hw.ent hB⟩
theorem results_tmp3 {fn : Func} {t u s : Tmp} (h : fn.results = #[.tmp t, .tmp u, .tmp s]) (tmps : Array Value) (P : Program) (w : World) :
    (results fn tmps).run P w = .ok (.tuple #[tmps.getD t undef, tmps.getD u undef, tmps.getD s undef]) w := by
  simp [results, h]
theorem results_tmp4 {fn : Func} {t u s r : Tmp} (h : fn.results = #[.tmp t, .tmp u, .tmp s, .tmp r]) (tmps : Array Value) (P : Program) (w : World) :
    (results fn tmps).run P w = .ok (.tuple #[tmps.getD t undef, tmps.getD u undef, tmps.getD s undef, tmps.getD r undef]) w := by
  simp [results, h]
theorem At.ret3 {fn : Func} {R : Value → Mem → List Res → Prop} {m0 : Mem} {Rest B : List Res} {t u s : Nat} {v x y : Value} (hr : fn.results = #[.tmp t, .tmp u, .tmp s]) (ht : look t F = some v) (hu : look u F = some x) (hs : look s F = some y) (hm : m0.le m) (hR : R (.tuple #[v, x, y]) m B) (hB : Ent Rs (B ++ Rest)) :
    At n w0 F m Rs (bodyPost P fn (fun e w' => ∃ v m' B, e = .returned v ∧ m0.le m' ∧ R v m' B ∧ HW w0 m' (B ++ Rest) w') .ret) := fun a w ha hw =>
  ⟨ha.dfr, _, by rw [results_tmp3 hr]; rw [ha.val t v ht, ha.val u x hu, ha.val s y hs], _, m, B, rfl, hm, hR, hw.ent hB⟩
theorem At.ret4 {fn : Func} {R : Value → Mem → List Res → Prop} {m0 : Mem} {Rest B : List Res} {t u s r : Nat} {v x y z : Value} (hr : fn.results = #[.tmp t, .tmp u, .tmp s, .tmp r]) (ht : look t F = some v) (hu : look u F = some x) (hs : look s F = some y) (hq : look r F = some z) (hm : m0.le m) (hR : R (.tuple #[v, x, y, z]) m B) (hB : Ent Rs (B ++ Rest)) :
    At n w0 F m Rs (bodyPost P fn (fun e w' => ∃ v m' B, e = .returned v ∧ m0.le m' ∧ R v m' B ∧ HW w0 m' (B ++ Rest) w') .ret) := fun a w ha hw =>
  ⟨ha.dfr, _, by rw [results_tmp4 hr]; rw [ha.val t v ht, ha.val u x hu, ha.val s y hs, ha.val r z hq], _, m, B, rfl, hm, hR, hw.ent hB⟩

end
end Go.J
/- The rules of the single operations that leave the world as it is. -/
set_option linter.unusedSimpArgs false
set_option linter.unusedVariables false
set_option linter.unusedSectionVars false
set_option maxRecDepth 20000
namespace Go.J
open Go

section
variable {P : Program} {n : Nat} {F : Fr} {C : World → Prop}

theorem pr_move {x : Operand} {v : Value} (hx : ev F x = some v) : PR P n F C (.move x) v := fun _ _ _ _ _ a w ha _ => by
  simp only [execOp, ha.ev hx]; rfl
theorem pr_assign {x : Operand} {v : Value} (hx : ev F x = some v) : PR P n F C (.assign x) v := fun _ _ _ _ _ a w ha _ => by
  simp only [execOp, ha.ev hx]; rfl
theorem pr_pick_t {c x y : Operand} {v : Value} (hc : ev F c = some (.bool true)) (hx : ev F x = some v) : PR P n F C (.pick c x y) v := fun _ _ _ _ _ a w ha _ => by
  simp only [execOp, ha.ev hx, ha.ev hc]; rfl
theorem pr_pick_f {c x y : Operand} {v : Value} (hc : ev F c = some (.bool false)) (hy : ev F y = some v) : PR P n F C (.pick c x y) v := fun _ _ _ _ _ a w ha _ => by
  simp only [execOp, ha.ev hy, ha.ev hc]; rfl
theorem pr_nilCheck {x : Operand} {p : Addr} (hx : ev F x = some (.pointer (some p))) : PR P n F C (.nilCheck x) (.pointer (some p)) := fun _ _ _ _ _ a w ha _ => by
  simp only [execOp, ha.ev hx]; rfl
theorem pr_extract {x : Operand} {i : Nat} {vs : List Value} {v : Value} (hx : ev F x = some (.tuple vs.toArray)) (hv : vs[i]? = some v) : PR P n F C (.extract x i) v := fun _ _ _ _ _ a w ha _ => by
  simp only [execOp, ha.ev hx, Instr.extract, List.getElem?_toArray, hv]; rfl

/-! whole numbers -/
theorem pr_arith {x y : Operand} {k : IntKind} {p q : Int} {t u : TypeId} {op : BinOp} {v : Value} (hx : ev F x = some (.int k p)) (hy : ev F y = some (.int k q))
    (h : ∀ a : Act, a.eval x = .int k p → a.eval y = .int k q → ∀ d ty pos aft g w, (execOp a.eval ⟨d, .binOp op t x y u, ty, pos, aft, g⟩).run P w = .ok (.value v) w) : PR P n F C (.binOp op t x y u) v :=
  fun _ _ _ _ _ a w ha _ => h a (ha.ev hx) (ha.ev hy) _ _ _ _ _ w

theorem pr_add {x y : Operand} {k : IntKind} {p q r : Int} {t u : TypeId} (hx : ev F x = some (.int k p)) (hy : ev F y = some (.int k q)) (hr : k.wrap (p + q) = r) : PR P n F C (.binOp .add t x y u) (.int k r) :=
  pr_arith hx hy fun a h1 h2 _ _ _ _ _ w => by simp [execOp, h1, h2, eqGuard, binOp, Op.intArith, hr]
theorem pr_sub {x y : Operand} {k : IntKind} {p q r : Int} {t u : TypeId} (hx : ev F x = some (.int k p)) (hy : ev F y = some (.int k q)) (hr : k.wrap (p - q) = r) : PR P n F C (.binOp .sub t x y u) (.int k r) :=
  pr_arith hx hy fun a h1 h2 _ _ _ _ _ w => by simp [execOp, h1, h2, eqGuard, binOp, Op.intArith, hr]
theorem pr_mul {x y : Operand} {k : IntKind} {p q r : Int} {t u : TypeId} (hx : ev F x = some (.int k p)) (hy : ev F y = some (.int k q)) (hr : k.wrap (p * q) = r) : PR P n F C (.binOp .mul t x y u) (.int k r) :=
  pr_arith hx hy fun a h1 h2 _ _ _ _ _ w => by simp [execOp, h1, h2, eqGuard, binOp, Op.intArith, hr]
theorem pr_quo {x y : Operand} {k : IntKind} {p q r : Int} {t u : TypeId} (hx : ev F x = some (.int k p)) (hy : ev F y = some (.int k q)) (h0 : q ≠ 0) (hr : k.wrap (p.tdiv q) = r) : PR P n F C (.binOp .quo t x y u) (.int k r) :=
  pr_arith hx hy fun a h1 h2 _ _ _ _ _ w => by simp [execOp, h1, h2, eqGuard, binOp, Op.intDiv, hr, h0]
theorem pr_rem {x y : Operand} {k : IntKind} {p q r : Int} {t u : TypeId} (hx : ev F x = some (.int k p)) (hy : ev F y = some (.int k q)) (h0 : q ≠ 0) (hr : p.tmod q = r) : PR P n F C (.binOp .rem t x y u) (.int k r) :=
  pr_arith hx hy fun a h1 h2 _ _ _ _ _ w => by simp [execOp, h1, h2, eqGuard, binOp, Op.intDiv, hr, h0]
theorem pr_bits {op : BinOp} {x y : Operand} {k : IntKind} {p q : Int} {v : Value} {t u : TypeId} (hop : op = .and ∨ op = .or ∨ op = .xor ∨ op = .andNot) (hx : ev F x = some (.int k p)) (hy : ev F y = some (.int k q)) (hr : ∀ w, (Op.intBits op k p q).run P w = .ok v w) : PR P n F C (.binOp op t x y u) v :=
  pr_arith hx hy fun a h1 h2 _ _ _ _ _ w => by
    rcases hop with rfl | rfl | rfl | rfl <;> simp [execOp, h1, h2, eqGuard, binOp, hr]
theorem pr_shl {x y : Operand} {k k' : IntKind} {p q r : Int} {t u : TypeId} (hx : ev F x = some (.int k p)) (hy : ev F y = some (.int k' q)) (h0 : 0 ≤ q) (hr : k.wrap (p * 2 ^ (min q.toNat k.bits)) = r) : PR P n F C (.binOp .shl t x y u) (.int k r) :=
  fun _ _ _ _ _ a w ha _ => by simp [execOp, ha.ev hx, ha.ev hy, eqGuard, binOp, Op.shift, hr, show ¬ q < 0 by omega]
theorem pr_shr {x y : Operand} {k k' : IntKind} {p q r : Int} {t u : TypeId} (hx : ev F x = some (.int k p)) (hy : ev F y = some (.int k' q)) (h0 : 0 ≤ q) (hr : p.fdiv (2 ^ (min q.toNat k.bits)) = r) : PR P n F C (.binOp .shr t x y u) (.int k r) :=
  fun _ _ _ _ _ a w ha _ => by simp [execOp, ha.ev hx, ha.ev hy, eqGuard, binOp, Op.shift, hr, show ¬ q < 0 by omega]

theorem pr_lss {x y : Operand} {k : IntKind} {p q : Int} {t u : TypeId} (hx : ev F x = some (.int k p)) (hy : ev F y = some (.int k q)) : PR P n F C (.binOp .lss t x y u) (.bool (decide (p < q))) :=
  pr_arith hx hy fun a h1 h2 _ _ _ _ _ w => by simp [execOp, h1, h2, eqGuard, binOp, Op.intCmp]
theorem pr_leq {x y : Operand} {k : IntKind} {p q : Int} {t u : TypeId} (hx : ev F x = some (.int k p)) (hy : ev F y = some (.int k q)) : PR P n F C (.binOp .leq t x y u) (.bool (decide (p ≤ q))) :=
  pr_arith hx hy fun a h1 h2 _ _ _ _ _ w => by simp [execOp, h1, h2, eqGuard, binOp, Op.intCmp]
theorem pr_gtr {x y : Operand} {k : IntKind} {p q : Int} {t u : TypeId} (hx : ev F x = some (.int k p)) (hy : ev F y = some (.int k q)) : PR P n F C (.binOp .gtr t x y u) (.bool (decide (q < p))) :=
  pr_arith hx hy fun a h1 h2 _ _ _ _ _ w => by simp [execOp, h1, h2, eqGuard, binOp, Op.intCmp]
theorem pr_geq {x y : Operand} {k : IntKind} {p q : Int} {t u : TypeId} (hx : ev F x = some (.int k p)) (hy : ev F y = some (.int k q)) : PR P n F C (.binOp .geq t x y u) (.bool (decide (q ≤ p))) :=
  pr_arith hx hy fun a h1 h2 _ _ _ _ _ w => by simp [execOp, h1, h2, eqGuard, binOp, Op.intCmp]
theorem pr_eql {x y : Operand} {k : IntKind} {p q : Int} {t u : TypeId} (hx : ev F x = some (.int k p)) (hy : ev F y = some (.int k q)) : PR P n F C (.binOp .eql t x y u) (.bool (decide (p = q))) :=
  pr_arith hx hy fun a h1 h2 _ _ _ _ _ w => by simp [execOp, h1, h2, eqGuard, binOp, Op.intCmp]; rfl
theorem pr_neq {x y : Operand} {k : IntKind} {p q : Int} {t u : TypeId} (hx : ev F x = some (.int k p)) (hy : ev F y = some (.int k q)) : PR P n F C (.binOp .neq t x y u) (.bool (!decide (p = q))) :=
  pr_arith hx hy fun a h1 h2 _ _ _ _ _ w => by simp [execOp, h1, h2, eqGuard, binOp, Op.intCmp]; rfl

theorem pr_not {x : Operand} {b : Bool} {t : TypeId} (hx : ev F x = some (.bool b)) : PR P n F C (.unOp .not t x) (.bool !b) := fun _ _ _ _ _ a w ha _ => by
  simp [execOp, ha.ev hx, Op.unary]
theorem pr_neg {x : Operand} {k : IntKind} {p r : Int} {t : TypeId} (hx : ev F x = some (.int k p)) (hr : k.wrap (0 - p) = r) : PR P n F C (.unOp .neg t x) (.int k r) := fun _ _ _ _ _ a w ha _ => by
  simp only [execOp, ha.ev hx, Op.unary, Op.intArith, hr]; rfl
theorem pr_conv {x : Operand} {s d : TypeId} {k k' : IntKind} {p r : Int} (hs : ∃ e, P.underlying s = some (.int e)) (hd : P.underlying d = some (.int k')) (hx : ev F x = some (.int k p)) (hr : k'.wrap p = r) : PR P n F C (.convert s d x) (.int k' r) := fun _ _ _ _ _ a w ha _ => by
  obtain ⟨e, he⟩ := hs
  simp [execOp, ha.ev hx, convert, underlying, program, he, hd, Conv.intToInt, hr, Sem.run]

/-! bools, pointers against nil -/
theorem pr_eql_of {x y : Operand} {p q : Value} {t u : TypeId} {r : Bool} (hx : ev F x = some p) (hy : ev F y = some q)
    (hg : ∀ w, (eqGuard .eql t x y p q).run P w = .ok () w) (hb : binOp .eql t p q = (Op.equal t p q >>= fun b => pure (.bool b))) (he : ∀ w, C w → (Op.equal t p q).run P w = .ok r w) : PR P n F C (.binOp .eql t x y u) (.bool r) := fun _ _ _ _ _ a w ha hC => by
  simp only [execOp, ha.ev hx, ha.ev hy, hb]
  simp [hg, he w hC]
theorem pr_neq_of {x y : Operand} {p q : Value} {t u : TypeId} {r : Bool} (hx : ev F x = some p) (hy : ev F y = some q)
    (hg : ∀ w, (eqGuard .neq t x y p q).run P w = .ok () w) (hb : binOp .neq t p q = (Op.equal t p q >>= fun b => pure (.bool !b))) (he : ∀ w, C w → (Op.equal t p q).run P w = .ok r w) : PR P n F C (.binOp .neq t x y u) (.bool !r) := fun _ _ _ _ _ a w ha hC => by
  simp only [execOp, ha.ev hx, ha.ev hy, hb]
  simp [hg, he w hC]
theorem run_equal_bool {t : TypeId} {p q : Bool} (ht : P.underlying t = some .bool) (w : World) : (Op.equal t (.bool p) (.bool q)).run P w = .ok (p == q) w := by
  unfold Op.equal Op.maxDepth
  unfold Op.equalIn
  simp only [underlying, program, ht, Sem.run, bind, Sem.bind, pure]
theorem run_equal_nil {t e : TypeId} {p : Option Addr} (ht : P.underlying t = some (.pointer e)) (w : World) : (Op.equal t (.pointer p) (.pointer none)).run P w = .ok p.isNone w := by
  unfold Op.equal Op.maxDepth
  unfold Op.equalIn
  cases p <;> simp only [underlying, program, ht, Sem.run, bind, Sem.bind, pure, Option.isNone]
theorem pr_beql {x y : Operand} {p q : Bool} {t u : TypeId} (ht : P.underlying t = some .bool) (hx : ev F x = some (.bool p)) (hy : ev F y = some (.bool q)) : PR P n F C (.binOp .eql t x y u) (.bool (p == q)) :=
  pr_eql_of hx hy (fun _ => rfl) rfl (fun w _ => run_equal_bool ht w)
theorem pr_bneq {x y : Operand} {p q : Bool} {t u : TypeId} (ht : P.underlying t = some .bool) (hx : ev F x = some (.bool p)) (hy : ev F y = some (.bool q)) : PR P n F C (.binOp .neq t x y u) (.bool (!(p == q))) :=
  pr_neq_of hx hy (fun _ => rfl) rfl (fun w _ => run_equal_bool ht w)
theorem pr_peql {x y : Operand} {p : Option Addr} {t u e : TypeId} (ht : P.underlying t = some (.pointer e)) (hx : ev F x = some (.pointer p)) (hy : ev F y = some (.pointer none)) : PR P n F C (.binOp .eql t x y u) (.bool p.isNone) :=
  pr_eql_of hx hy (fun _ => rfl) (by cases p <;> rfl) (fun w _ => run_equal_nil ht w)
theorem pr_pneq {x y : Operand} {p : Option Addr} {t u e : TypeId} (ht : P.underlying t = some (.pointer e)) (hx : ev F x = some (.pointer p)) (hy : ev F y = some (.pointer none)) : PR P n F C (.binOp .neq t x y u) (.bool !p.isNone) :=
  pr_neq_of hx hy (fun _ => rfl) (by cases p <;> rfl) (fun w _ => run_equal_nil ht w)

/-! builtins -/
theorem pr_len_sl {x : Operand} {t e : TypeId} {p : Option Addr} {l c : Nat} (ht : P.underlying t = some (.slice e)) (hx : ev F x = some (.slice p l c)) : PR P n F C (.call ⟨.builtin .len, #[x], #[t]⟩) (.int .i64 l) := fun _ _ _ _ _ a w ha _ => by
  simp [execOp, resolve, invoke, builtin, ha.ev hx, Builtin.len_, underlying, program, ht, Sem.run, goInt]
theorem pr_len_st {x : Operand} {t : TypeId} {s : ByteArray} (ht : P.underlying t = some .string) (hx : ev F x = some (.string s)) : PR P n F C (.call ⟨.builtin .len, #[x], #[t]⟩) (.int .i64 s.size) := fun _ _ _ _ _ a w ha _ => by
  simp [execOp, resolve, invoke, builtin, ha.ev hx, Builtin.len_, underlying, program, ht, Sem.run, goInt]
theorem pr_min {x y : Operand} {k : IntKind} {p q : Int} {ts : Array TypeId} (hx : ev F x = some (.int k p)) (hy : ev F y = some (.int k q)) : PR P n F C (.call ⟨.builtin .min, #[x, y], ts⟩) (.int k (if q < p then q else p)) := fun _ _ _ _ _ a w ha _ => by
  simp [execOp, resolve, invoke, builtin, ha.ev hx, ha.ev hy, Builtin.min_, Builtin.min2]
theorem pr_max {x y : Operand} {k : IntKind} {p q : Int} {ts : Array TypeId} (hx : ev F x = some (.int k p)) (hy : ev F y = some (.int k q)) : PR P n F C (.call ⟨.builtin .max, #[x, y], ts⟩) (.int k (if p < q then q else p)) := fun _ _ _ _ _ a w ha _ => by
  simp [execOp, resolve, invoke, builtin, ha.ev hx, ha.ev hy, Builtin.max_, Builtin.max2]

end
/-- the lengths, for simp -/
theorem lns : (∀ (α : Type) (a b : List α), (a ++ b).length = a.length + b.length) ∧ (∀ (α : Type) (i : Nat) (a : List α), (a.take i).length = min i a.length) ∧ (∀ (α : Type) (i : Nat) (a : List α), (a.drop i).length = a.length - i) ∧
    (∀ (α : Type), ([] : List α).length = 0) ∧ (∀ (α : Type) (x : α) (a : List α), (x :: a).length = a.length + 1) ∧ (∀ (α : Type) (a : List α) (i : Nat) (x : α), (a.set i x).length = a.length) ∧ maxLen = 9223372036854775807 ∧
    (∀ (α : Type) (n : Nat) (x : α), (List.replicate n x).length = n) ∧ (∀ (α : Type) (β : Type) (f : α → β) (a : List α), (a.map f).length = a.length) :=
  ⟨fun _ _ _ => List.length_append, fun _ _ _ => List.length_take, fun _ _ _ => List.length_drop, fun _ => rfl, fun _ _ _ => rfl, fun _ _ _ _ => List.length_set, rfl, fun _ _ _ => List.length_replicate, fun _ _ _ _ => List.length_map ..⟩
end Go.J
/- The rules of memory: blocks that a function owns, loads, stores, new blocks, calls. -/
set_option linter.unusedSimpArgs false
set_option linter.unusedVariables false
set_option linter.unusedSectionVars false
set_option maxRecDepth 20000
namespace Go.J
open Go

/-! ### cells -/
def oneCell : Value → Bool
  | .agg _ | .tuple _ => false
  | _ => true

theorem World.cell_of {w : World} {b : Nat} {c : Array Value} {E : TypeId} {fz : Nat × Nat} (h : w.heap[b]? = some (.cells c E fz)) (o : Nat) : w.cell? ⟨b, o, none⟩ = c[o]? := by
  simp [World.cell?, h]

theorem Addr.add_eq (b o j : Nat) : (⟨b, o, none⟩ : Addr).add j = ⟨b, o + j, none⟩ := by
  unfold Addr.add
  split
  · rename_i h; subst h; rfl
  · rfl

theorem run_loadCellsFrom {P : Program} (w : World) (b o : Nat) : ∀ (k i : Nat) (acc : Array Value) (vs : List Value), vs.length = k → (∀ j, j < k → w.cell? ⟨b, o + (i + j), none⟩ = vs[j]?) →
    (loadCellsFrom ⟨b, o, none⟩ i k acc).run P w = .ok (acc ++ vs.toArray) w := by
  intro k
  induction k with
  | zero => intro i acc vs hl _; cases vs with
    | nil => simp [loadCellsFrom]
    | cons => cases hl
  | succ k ih =>
    intro i acc vs hl h
    cases vs with
    | nil => cases hl
    | cons v vs =>
      have h0 := h 0 (by omega)
      simp only [Nat.add_zero, List.getElem?_cons_zero] at h0
      have := ih (i + 1) (acc.push v) vs (by simpa using hl) (fun j hj => by
        have := h (j + 1) (by omega)
        simp only [List.getElem?_cons_succ] at this
        rw [← this, show i + 1 + j = i + (j + 1) by omega])
      unfold loadCellsFrom
      simp only [load, bind, Sem.bind, Sem.run, Addr.add_eq, h0]
      rw [show (loadCellsFrom ⟨b, o, none⟩ (i + 1) k (acc.push v)).run P w = _ from this]
      simp

theorem run_loadCells {P : Program} (w : World) (b o : Nat) (vs : List Value) (h : ∀ j, j < vs.length → w.cell? ⟨b, o + j, none⟩ = vs[j]?) : (loadCells ⟨b, o, none⟩ vs.length).run P w = .ok vs.toArray w := by
  unfold loadCells
  rw [run_loadCellsFrom w b o vs.length 0 #[] vs rfl (fun j hj => by rw [Nat.zero_add]; exact h j hj)]
  simp

def isAggB (P : Program) (t : TypeId) : Option Bool :=
  match P.underlying t with
  | some (.struct _) | some (.array _ _) => some true
  | some _ => some false
  | none => none
def sizeB (P : Program) (t : TypeId) : Option Nat := match P.info? t with
  | some i => some i.size
  | none => none

theorem run_isAgg {P : Program} {t : TypeId} {b : Bool} (h : isAggB P t = some b) (w : World) : (isAgg t).run P w = .ok b w := by
  unfold isAggB at h
  unfold isAgg
  cases hu : P.underlying t with
  | none => rw [hu] at h; cases h
  | some d =>
    rw [hu] at h
    have hr : (underlying t).run P w = .ok d w := by simp only [underlying, program, bind, Sem.bind, Sem.run, hu]; rfl
    simp only [Sem.run_bind]
    rw [hr]
    cases d <;> simp at h <;> subst h <;> rfl
theorem run_sizeOf {P : Program} {t : TypeId} {k : Nat} (h : sizeB P t = some k) (w : World) : (sizeOf t).run P w = .ok k w := by
  unfold sizeB at h
  unfold sizeOf typeInfo
  cases hi : P.info? t with
  | none => rw [hi] at h; cases h
  | some i =>
    rw [hi] at h
    cases h
    simp only [program, bind, Sem.bind, Sem.run, hi]; rfl

theorem run_loadVar1 {P : Program} {t : TypeId} {w : World} {b o : Nat} {v : Value} (ht : isAggB P t = some false) (hc : w.cell? ⟨b, o, none⟩ = some v) : (loadVar t ⟨b, o, none⟩).run P w = .ok v w := by
  unfold loadVar
  simp only [Sem.run_bind]
  rw [run_isAgg ht]
  simp [Result.andThen, load, Sem.run, hc]
theorem run_loadVarN {P : Program} {t : TypeId} {w : World} {b o : Nat} {vs : List Value} (ht : isAggB P t = some true) (hs : sizeB P t = some vs.length) (hc : ∀ j, j < vs.length → w.cell? ⟨b, o + j, none⟩ = vs[j]?) :
    (loadVar t ⟨b, o, none⟩).run P w = .ok (.agg vs.toArray) w := by
  unfold loadVar
  simp only [Sem.run_bind]
  rw [run_isAgg ht]
  simp only [Result.andThen, if_true, Sem.run_bind]
  rw [run_sizeOf hs]
  simp only []
  rw [run_loadCells w b o vs hc]
  rfl

/-- writes a list into a list -/
def putl : List Value → Nat → List Value → Option (List Value)
  | cs, 0, [] => some cs
  | [], 0, _ :: _ => none
  | _ :: cs, 0, v :: vs => match putl cs 0 vs with
    | some r => some (v :: r)
    | none => none
  | [], _ + 1, _ => none
  | c :: cs, o + 1, vs => match putl cs o vs with
    | some r => some (c :: r)
    | none => none
def nthl : List Value → Nat → Option Value
  | [], _ => none
  | c :: _, 0 => some c
  | _ :: cs, o + 1 => nthl cs o
def subl : List Value → Nat → Nat → Option (List Value)
  | _, 0, 0 => some []
  | [], 0, _ + 1 => none
  | c :: cs, 0, k + 1 => match subl cs 0 k with
    | some r => some (c :: r)
    | none => none
  | [], _ + 1, _ => none
  | _ :: cs, o + 1, k => subl cs o k

theorem nthl_eq : ∀ (cs : List Value) (o : Nat), nthl cs o = cs[o]?
  | [], _ => by simp [nthl]
  | _ :: _, 0 => rfl
  | _ :: cs, o + 1 => by rw [nthl, nthl_eq cs o]; rfl
theorem subl_length : ∀ (cs : List Value) (o k : Nat) (r : List Value), subl cs o k = some r → r.length = k
  | _, 0, 0, r, h => by cases r with
    | nil => rfl
    | cons => simp [subl] at h
  | [], 0, _ + 1, _, h => by simp [subl] at h
  | c :: cs, 0, k + 1, r, h => by
    simp only [subl] at h
    cases hh : subl cs 0 k with
    | none => rw [hh] at h; cases h
    | some r' => rw [hh] at h; cases h; simp [subl_length cs 0 k r' hh]
  | [], _ + 1, _, _, h => by simp [subl] at h
  | _ :: cs, o + 1, k, r, h => by simp only [subl] at h; exact subl_length cs o k r h
theorem subl_get : ∀ (cs : List Value) (o k : Nat) (r : List Value), subl cs o k = some r → ∀ j, j < k → cs[o + j]? = r[j]?
  | _, 0, 0, _, _, j, hj => by omega
  | [], 0, _ + 1, _, h, _, _ => by simp [subl] at h
  | c :: cs, 0, k + 1, r, h, j, hj => by
    simp only [subl] at h
    cases hh : subl cs 0 k with
    | none => rw [hh] at h; cases h
    | some r' =>
      rw [hh] at h; cases h
      cases j with
      | zero => rfl
      | succ j =>
        have := subl_get cs 0 k r' hh j (by omega)
        simpa [Nat.zero_add] using this
  | [], _ + 1, _, _, h, _, _ => by simp [subl] at h
  | _ :: cs, o + 1, k, r, h, j, hj => by
    simp only [subl] at h
    have := subl_get cs o k r h j hj
    rw [show o + 1 + j = (o + j) + 1 by omega]
    simpa using this

/-! ### resources: a block -/
def Res.blk (b : Nat) (E : TypeId) (cs : List Value) : Res where
  p w s := w.heap[b]? = some (.cells cs.toArray E (0, 0)) ∧ ∀ k, s k ↔ k = b
  loc := fun ⟨h, hs⟩ he => ⟨by rw [he _ ((hs _).2 rfl)]; exact h, hs⟩
  dom := fun ⟨h, hs⟩ hk => by
    have := (hs _).1 hk; subst this
    exact (Array.getElem?_eq_some_iff.1 h).1

inductive Repl : List Res → Res → Res → List Res → Prop
  | here {R R' : Res} {Rs : List Res} : Repl (R :: Rs) R R' (R' :: Rs)
  | there {X R R' : Res} {Rs Rs' : List Res} : Repl Rs R R' Rs' → Repl (X :: Rs) R R' (X :: Rs')
/-! one out of the first ten -/
section
variable {X0 X1 X2 X3 X4 X5 X6 X7 X8 X9 R R' : Res} {Rs : List Res}
theorem pk0 : Pick (R :: Rs) R (Rs) := .here
theorem pk1 : Pick (X0 :: R :: Rs) R (X0 :: Rs) := .there (.here)
theorem pk2 : Pick (X0 :: X1 :: R :: Rs) R (X0 :: X1 :: Rs) := .there (.there (.here))
theorem pk3 : Pick (X0 :: X1 :: X2 :: R :: Rs) R (X0 :: X1 :: X2 :: Rs) := .there (.there (.there (.here)))
theorem pk4 : Pick (X0 :: X1 :: X2 :: X3 :: R :: Rs) R (X0 :: X1 :: X2 :: X3 :: Rs) := .there (.there (.there (.there (.here))))
theorem pk5 : Pick (X0 :: X1 :: X2 :: X3 :: X4 :: R :: Rs) R (X0 :: X1 :: X2 :: X3 :: X4 :: Rs) := .there (.there (.there (.there (.there (.here)))))
theorem pk6 : Pick (X0 :: X1 :: X2 :: X3 :: X4 :: X5 :: R :: Rs) R (X0 :: X1 :: X2 :: X3 :: X4 :: X5 :: Rs) := .there (.there (.there (.there (.there (.there (.here))))))
theorem pk7 : Pick (X0 :: X1 :: X2 :: X3 :: X4 :: X5 :: X6 :: R :: Rs) R (X0 :: X1 :: X2 :: X3 :: X4 :: X5 :: X6 :: Rs) := .there (.there (.there (.there (.there (.there (.there (.here)))))))
theorem pk8 : Pick (X0 :: X1 :: X2 :: X3 :: X4 :: X5 :: X6 :: X7 :: R :: Rs) R (X0 :: X1 :: X2 :: X3 :: X4 :: X5 :: X6 :: X7 :: Rs) := .there (.there (.there (.there (.there (.there (.there (.there (.here))))))))
theorem pk9 : Pick (X0 :: X1 :: X2 :: X3 :: X4 :: X5 :: X6 :: X7 :: X8 :: R :: Rs) R (X0 :: X1 :: X2 :: X3 :: X4 :: X5 :: X6 :: X7 :: X8 :: Rs) := .there (.there (.there (.there (.there (.there (.there (.there (.there (.here)))))))))
theorem rp0 : Repl (R :: Rs) R R' (R' :: Rs) := .here
theorem rp1 : Repl (X0 :: R :: Rs) R R' (X0 :: R' :: Rs) := .there (.here)
theorem rp2 : Repl (X0 :: X1 :: R :: Rs) R R' (X0 :: X1 :: R' :: Rs) := .there (.there (.here))
theorem rp3 : Repl (X0 :: X1 :: X2 :: R :: Rs) R R' (X0 :: X1 :: X2 :: R' :: Rs) := .there (.there (.there (.here)))
theorem rp4 : Repl (X0 :: X1 :: X2 :: X3 :: R :: Rs) R R' (X0 :: X1 :: X2 :: X3 :: R' :: Rs) := .there (.there (.there (.there (.here))))
theorem rp5 : Repl (X0 :: X1 :: X2 :: X3 :: X4 :: R :: Rs) R R' (X0 :: X1 :: X2 :: X3 :: X4 :: R' :: Rs) := .there (.there (.there (.there (.there (.here)))))
theorem rp6 : Repl (X0 :: X1 :: X2 :: X3 :: X4 :: X5 :: R :: Rs) R R' (X0 :: X1 :: X2 :: X3 :: X4 :: X5 :: R' :: Rs) := .there (.there (.there (.there (.there (.there (.here))))))
theorem rp7 : Repl (X0 :: X1 :: X2 :: X3 :: X4 :: X5 :: X6 :: R :: Rs) R R' (X0 :: X1 :: X2 :: X3 :: X4 :: X5 :: X6 :: R' :: Rs) := .there (.there (.there (.there (.there (.there (.there (.here)))))))
theorem rp8 : Repl (X0 :: X1 :: X2 :: X3 :: X4 :: X5 :: X6 :: X7 :: R :: Rs) R R' (X0 :: X1 :: X2 :: X3 :: X4 :: X5 :: X6 :: X7 :: R' :: Rs) := .there (.there (.there (.there (.there (.there (.there (.there (.here))))))))
theorem rp9 : Repl (X0 :: X1 :: X2 :: X3 :: X4 :: X5 :: X6 :: X7 :: X8 :: R :: Rs) R R' (X0 :: X1 :: X2 :: X3 :: X4 :: X5 :: X6 :: X7 :: X8 :: R' :: Rs) := .there (.there (.there (.there (.there (.there (.there (.there (.there (.here)))))))))
end
theorem Repl.picks {Rs Rs' : List Res} {R R' : Res} (h : Repl Rs R R' Rs') : ∃ T, Pick Rs R T ∧ Pick Rs' R' T := by
  induction h with
  | here => exact ⟨_, .here, .here⟩
  | there _ ih => obtain ⟨T, h1, h2⟩ := ih; exact ⟨_, .there h1, .there h2⟩

section
variable {P : Program} {n : Nat} {w0 : World} {F : Fr} {m : Mem} {Rs : List Res} {Q : Exit → Act → World → Prop} {K : Act → World → Prop} {C : World → Prop}

theorem HW.blk {w : World} (h : HW w0 m Rs w) {b : Nat} {E : TypeId} {cs : List Value} {Rs' : List Res} (hp : Pick Rs (.blk b E cs) Rs') : w.heap[b]? = some (.cells cs.toArray E (0, 0)) :=
  let ⟨_, h1, _⟩ := h.get hp
  h1

/-- one block is written: the list turns at its place -/
theorem HW.upd {w : World} (h : HW w0 m Rs w) {b : Nat} {R R' : Res} {Rs' : List Res} (hp : Repl Rs R R' Rs') {w' : World}
    (hos : w'.os = w.os) (htape : w'.tape = w.tape) (hout : w'.output = w.output) (hsz : w.heap.size ≤ w'.heap.size)
    (hin : ∀ s, R.p w s → s b) (hold : ∀ k, k < w.heap.size → k ≠ b → w'.heap[k]? = w.heap[k]?) (hnew : ∀ s, R.p w s → ∃ s', R'.p w' s' ∧ ∀ k, s' k → s k ∨ w.heap.size ≤ k) : HW w0 m Rs' w' := by
  obtain ⟨T, h1, h2⟩ := hp.picks
  obtain ⟨s, hs, hm⟩ := (h.ent (Ent.of_pick h1)).res
  obtain ⟨s1, s2, hR, hT, hd, he⟩ := hs
  obtain ⟨s1', hR', hsub⟩ := hnew s1 hR
  have hT' : Sat T w' s2 := Sat.loc hT fun k hk => hold k (Sat.dom hT hk) (fun e => hd k ⟨by rw [e]; exact hin s1 hR, hk⟩)
  refine HW.ent (Rs := R' :: T) ⟨hos.trans h.os, htape.trans h.tape, hout.trans h.output, Nat.le_trans h.size hsz, fun k o hk => ?_, fun k => s1' k ∨ s2 k, ⟨s1', s2, hR', hT', ?_, fun _ => Iff.rfl⟩, ?_⟩ (Ent.to_pick h2)
  · have hk' := h.mem k o hk
    have hlt := (Array.getElem?_eq_some_iff.1 hk').1
    rw [hold k hlt (fun e => ?_)]
    · exact hk'
    · have := hm k ((he k).2 (.inl (by rw [e]; exact hin s1 hR)))
      rw [this] at hk; cases hk
  · rintro k ⟨x, y⟩
    rcases hsub k x with x | x
    · exact hd k ⟨x, y⟩
    · have := Sat.dom hT y; omega
  · rintro k (x | x)
    · rcases hsub k x with x | x
      · exact hm k ((he k).2 (.inl x))
      · cases hk : m k with
        | none => rfl
        | some o =>
          have := (Array.getElem?_eq_some_iff.1 (h.mem k o hk)).1
          omega
    · exact hm k ((he k).2 (.inr x))

/-- a new resource, all of it in new blocks -/
theorem HW.add {w : World} (h : HW w0 m Rs w) {R : Res} {w' : World}
    (hos : w'.os = w.os) (htape : w'.tape = w.tape) (hout : w'.output = w.output) (hsz : w.heap.size ≤ w'.heap.size)
    (hold : ∀ k, k < w.heap.size → w'.heap[k]? = w.heap[k]?) (hnew : ∃ s', R.p w' s' ∧ ∀ k, s' k → w.heap.size ≤ k) : HW w0 m (R :: Rs) w' := by
  obtain ⟨s, hs, hm⟩ := h.res
  obtain ⟨s', hR, hge⟩ := hnew
  refine ⟨hos.trans h.os, htape.trans h.tape, hout.trans h.output, Nat.le_trans h.size hsz, fun k o hk => ?_, fun k => s' k ∨ s k, ⟨s', s, hR, Sat.loc hs fun k hk => hold k (Sat.dom hs hk), ?_, fun _ => Iff.rfl⟩, ?_⟩
  · have hk' := h.mem k o hk
    rw [hold k (Array.getElem?_eq_some_iff.1 hk').1]; exact hk'
  · rintro k ⟨x, y⟩
    have := Sat.dom hs y
    have := hge k x
    omega
  · rintro k (x | x)
    · cases hk : m k with
      | none => rfl
      | some o =>
        have := (Array.getElem?_eq_some_iff.1 (h.mem k o hk)).1
        have := hge k x
        omega
    · exact hm k x

theorem HW.alloc {w : World} (h : HW w0 m Rs w) (E : TypeId) (cs : List Value) : HW w0 m (.blk w.heap.size E cs :: Rs) { w with heap := w.heap.push (.cells cs.toArray E (0, 0)) } :=
  h.add rfl rfl rfl (by simp) (fun k hk => by simp [Array.getElem?_push, Nat.ne_of_lt hk]) ⟨fun k => k = w.heap.size, ⟨by simp, fun _ => Iff.rfl⟩, fun k hk => by simp_all⟩

/-- an owned block becomes memory that stays as it is -/
theorem At.freeze {b : Nat} {E : TypeId} {cs : List Value} {Rs' : List Res} (hp : Pick Rs (.blk b E cs) Rs')
    (h : ∀ m' : Mem, m.le m' → m' b = some (.cells cs.toArray E (0, 0)) → At n w0 F m' Rs' K) : At n w0 F m Rs K := fun a w ha hw => by
  obtain ⟨s, ⟨s1, s2, ⟨h1, hs1⟩, h2, hd, he⟩, hm⟩ := (hw.ent (Ent.of_pick hp)).res
  have hmb : m b = none := hm b ((he b).2 (.inl ((hs1 b).2 rfl)))
  refine h (fun k => if k = b then some (.cells cs.toArray E (0, 0)) else m k) (fun k o hk => ?_) (if_pos rfl) a w ha
    ⟨hw.os, hw.tape, hw.output, hw.size, fun k o hk => ?_, s2, h2, fun k hk => ?_⟩
  · show (if k = b then _ else _) = _
    rw [if_neg (fun e => by subst e; rw [hmb] at hk; cases hk)]; exact hk
  · by_cases e : k = b
    · subst e
      rw [if_pos rfl] at hk; cases hk; exact h1
    · rw [if_neg e] at hk; exact hw.mem k o hk
  · show (if k = b then _ else _) = _
    rw [if_neg (fun e => hd k ⟨(hs1 k).2 e, hk⟩)]
    exact hm k ((he k).2 (.inr hk))

/-! ### loads -/
theorem pr_load1 {x : Operand} {t : TypeId} {b o : Nat} {v : Value} (ht : isAggB P t = some false) (hx : ev F x = some (.pointer (some ⟨b, o, none⟩))) (hc : ∀ w, C w → w.cell? ⟨b, o, none⟩ = some v) : PR P n F C (.load t x) v := fun _ _ _ _ _ a w ha hC => by
  simp only [execOp, ha.ev hx, Instr.loadAt, Instr.sureAddr, Sem.run_bind]
  simp only [pure, Sem.run, Result.andThen]
  rw [run_loadVar1 ht (hc w hC)]
theorem pr_loadN {x : Operand} {t : TypeId} {b o : Nat} {vs : List Value} (ht : isAggB P t = some true) (hx : ev F x = some (.pointer (some ⟨b, o, none⟩))) (hs : sizeB P t = some vs.length) (hc : ∀ w, C w → ∀ j, j < vs.length → w.cell? ⟨b, o + j, none⟩ = vs[j]?) : PR P n F C (.load t x) (.agg vs.toArray) := fun _ _ _ _ _ a w ha hC => by
  simp only [execOp, ha.ev hx, Instr.loadAt, Instr.sureAddr, Sem.run_bind]
  simp only [pure, Sem.run, Result.andThen]
  rw [run_loadVarN ht hs (hc w hC)]

theorem pr_load_blk1 {x : Operand} {t : TypeId} {b o : Nat} {E : TypeId} {cs : List Value} {Rs' : List Res} {v : Value} (ht : isAggB P t = some false) (hx : ev F x = some (.pointer (some ⟨b, o, none⟩)))
    (hp : Pick Rs (.blk b E cs) Rs') (hv : nthl cs o = some v) : PR P n F (HW w0 m Rs) (.load t x) v :=
  pr_load1 ht hx fun w hC => by rw [World.cell_of (hC.blk hp)]; rw [nthl_eq] at hv; simpa using hv
theorem pr_load_blkN {x : Operand} {t : TypeId} {b o : Nat} {E : TypeId} {cs : List Value} {Rs' : List Res} {k : Nat} {vs : List Value} (ht : isAggB P t = some true) (hx : ev F x = some (.pointer (some ⟨b, o, none⟩)))
    (hs : sizeB P t = some k) (hp : Pick Rs (.blk b E cs) Rs') (hv : subl cs o k = some vs) : PR P n F (HW w0 m Rs) (.load t x) (.agg vs.toArray) :=
  have hl := subl_length cs o k vs hv
  pr_loadN ht hx (by rw [hl]; exact hs) fun w hC j hj => by
    rw [World.cell_of (hC.blk hp)]
    rw [← subl_get cs o k vs hv j (by omega)]
    simp
theorem pr_load_mem1 {x : Operand} {t : TypeId} {b o : Nat} {E : TypeId} {fz : Nat × Nat} {cs : List Value} {v : Value} (ht : isAggB P t = some false) (hx : ev F x = some (.pointer (some ⟨b, o, none⟩)))
    (hp : m b = some (.cells cs.toArray E fz)) (hv : nthl cs o = some v) : PR P n F (HW w0 m Rs) (.load t x) v :=
  pr_load1 ht hx fun w hC => by rw [World.cell_of (hC.mem _ _ hp)]; rw [nthl_eq] at hv; simpa using hv
theorem pr_load_memN {x : Operand} {t : TypeId} {b o : Nat} {E : TypeId} {fz : Nat × Nat} {cs : List Value} {k : Nat} {vs : List Value} (ht : isAggB P t = some true) (hx : ev F x = some (.pointer (some ⟨b, o, none⟩)))
    (hs : sizeB P t = some k) (hp : m b = some (.cells cs.toArray E fz)) (hv : subl cs o k = some vs) : PR P n F (HW w0 m Rs) (.load t x) (.agg vs.toArray) :=
  have hl := subl_length cs o k vs hv
  pr_loadN ht hx (by rw [hl]; exact hs) fun w hC j hj => by
    rw [World.cell_of (hC.mem _ _ hp)]
    rw [← subl_get cs o k vs hv j (by omega)]
    simp

/-! ### fields -/
def litN : Nat → Option Nat
  | 0 => some 0
  | 1 => some 1
  | 2 => some 2
  | 3 => some 3
  | 4 => some 4
  | 5 => some 5
  | 6 => some 6
  | 7 => some 7
  | 8 => some 8
  | 9 => some 9
  | 10 => some 10
  | 11 => some 11
  | 12 => some 12
  | 13 => some 13
  | 14 => some 14
  | 15 => some 15
  | 16 => some 16
  | 17 => some 17
  | 18 => some 18
  | 19 => some 19
  | 20 => some 20
  | 21 => some 21
  | 22 => some 22
  | 23 => some 23
  | 24 => some 24
  | 25 => some 25
  | 26 => some 26
  | 27 => some 27
  | 28 => some 28
  | 29 => some 29
  | 30 => some 30
  | 31 => some 31
  | 32 => some 32
  | 33 => some 33
  | 34 => some 34
  | 35 => some 35
  | 36 => some 36
  | 37 => some 37
  | 38 => some 38
  | 39 => some 39
  | 40 => some 40
  | 41 => some 41
  | 42 => some 42
  | 43 => some 43
  | 44 => some 44
  | 45 => some 45
  | 46 => some 46
  | 47 => some 47
  | 48 => some 48
  | 49 => some 49
  | 50 => some 50
  | 51 => some 51
  | 52 => some 52
  | 53 => some 53
  | 54 => some 54
  | 55 => some 55
  | 56 => some 56
  | 57 => some 57
  | 58 => some 58
  | 59 => some 59
  | 60 => some 60
  | 61 => some 61
  | 62 => some 62
  | 63 => some 63
  | n => some n
theorem litN_eq (n : Nat) : litN n = some n := by unfold litN; split <;> rfl
def fieldB (P : Program) (s : TypeId) (f : Nat) : Option Nat :=
  match P.underlying s with
  | some (.struct fs) => match fs[f]? with
    | some fd => match P.info? fd.type with
      | some i => match i.size with
        | 0 => none
        | _ + 1 => litN fd.offset
      | none => none
    | none => none
  | _ => none
theorem run_fieldAt {P : Program} {s : TypeId} {f off : Nat} (h : fieldB P s f = some off) (a : Addr) (w : World) : (Instr.fieldAt s (.pointer (some a)) f).run P w = .ok (.pointer (some (a.add off))) w := by
  unfold fieldB at h
  unfold Instr.fieldAt
  cases hu : P.underlying s with
  | none => rw [hu] at h; cases h
  | some d =>
    rw [hu] at h
    have hr : (underlying s).run P w = .ok d w := by simp only [underlying, program, bind, Sem.bind, Sem.run, hu]; rfl
    cases d <;> simp at h
    rename_i fs
    simp only [Sem.run_bind]
    rw [hr]
    simp only [Result.andThen]
    cases hf : fs[f]? with
    | none => rw [hf] at h; cases h
    | some fd =>
      rw [hf] at h
      simp only at h ⊢
      cases hi : P.info? fd.type with
      | none => rw [hi] at h; cases h
      | some i =>
        rw [hi] at h
        simp only at h
        have hsz : (sizeOf fd.type).run P w = .ok i.size w := run_sizeOf (by simp [sizeB, hi]) w
        cases hz : i.size with
        | zero => rw [hz] at h; cases h
        | succ q =>
          rw [hz] at h hsz
          simp only [litN_eq] at h
          cases h
          simp only [Instr.sureAddr, fieldPlace, pure, Sem.run_bind, Sem.run, Result.andThen]
          rw [hsz]
          simp
theorem pr_fieldAddr {x : Operand} {s : TypeId} {f off b o : Nat} (hx : ev F x = some (.pointer (some ⟨b, o, none⟩))) (hf : fieldB P s f = some off) : PR P n F C (.fieldAddr s x f) (.pointer (some ⟨b, o + off, none⟩)) := fun _ _ _ _ _ a w ha _ => by
  simp only [execOp, ha.ev hx, Sem.run_bind]
  rw [run_fieldAt hf, Addr.add_eq]
  rfl
theorem pr_fieldAddrL {x : Operand} {s : TypeId} {f off b o r : Nat} (hx : ev F x = some (.pointer (some ⟨b, o, none⟩))) (hf : fieldB P s f = some off) (hr : litN (o + off) = some r) : PR P n F C (.fieldAddr s x f) (.pointer (some ⟨b, r, none⟩)) := by
  rw [litN_eq] at hr; cases hr
  exact pr_fieldAddr hx hf
theorem pr_fieldAddr0 {x : Operand} {s : TypeId} {f off b : Nat} (hx : ev F x = some (.pointer (some ⟨b, 0, none⟩))) (hf : fieldB P s f = some off) : PR P n F C (.fieldAddr s x f) (.pointer (some ⟨b, off, none⟩)) := by
  have := pr_fieldAddr (C := C) (n := n) hx hf
  rwa [Nat.zero_add] at this

/-! ### stores, new variables -/
def cellsB : Value → Option (List Value)
  | .agg cs => flat cs.toList
  | v => some [v]
theorem cellsB_eq {v : Value} {vs : List Value} (h : cellsB v = some vs) : v.cells = vs.toArray := by
  cases v <;> simp only [cellsB] at h
  case agg cs => rw [flat_eq _ _ h]; simp [Value.cells]
  all_goals (cases h; rfl)

theorem run_storeCells {P : Program} {b : Nat} {E : TypeId} : ∀ (vs : List Value) (i o : Nat) (cs r : List Value) (w : World), w.heap[b]? = some (.cells cs.toArray E (0, 0)) → vs.all oneCell = true → putl cs (o + i) vs = some r →
    ∃ w', (storeCells ⟨b, o, none⟩ vs i).run P w = .ok () w' ∧ w'.heap[b]? = some (.cells r.toArray E (0, 0)) ∧ (∀ k, k ≠ b → w'.heap[k]? = w.heap[k]?) ∧ w'.heap.size = w.heap.size ∧ w'.os = w.os ∧ w'.tape = w.tape ∧ w'.output = w.output := by
  intro vs
  induction vs with
  | nil =>
    intro i o cs r w hb _ hp
    have : r = cs := by
      clear hb
      generalize o + i = k at hp
      induction k generalizing cs r with
      | zero => cases cs <;> simp [putl] at hp <;> first | exact hp | exact hp.symm
      | succ k ih =>
        cases cs with
        | nil => simp [putl] at hp
        | cons c cs =>
          simp only [putl] at hp
          cases hh : putl cs k [] with
          | none => rw [hh] at hp; cases hp
          | some r' => rw [hh] at hp; cases hp; rw [ih cs r' hh]
    subst this
    exact ⟨w, rfl, hb, fun _ _ => rfl, rfl, rfl, rfl, rfl⟩
  | cons v vs ih =>
    intro i o cs r w hb h1 hp
    simp only [List.all_cons, Bool.and_eq_true] at h1
    have key : ∀ (k : Nat) (cs r : List Value), putl cs k (v :: vs) = some r → k < cs.length ∧ putl (cs.set k v) (k + 1) vs = some r := by
      intro k
      induction k with
      | zero =>
        intro cs r hp
        cases cs with
        | nil => simp [putl] at hp
        | cons c cs =>
          simp only [putl] at hp
          cases hh : putl cs 0 vs with
          | none => rw [hh] at hp; cases hp
          | some r' => rw [hh] at hp; cases hp; exact ⟨by simp, by simp [putl, hh]⟩
      | succ k ih =>
        intro cs r hp
        cases cs with
        | nil => simp [putl] at hp
        | cons c cs =>
          simp only [putl] at hp
          cases hh : putl cs k (v :: vs) with
          | none => rw [hh] at hp; cases hp
          | some r' =>
            rw [hh] at hp; cases hp
            have := ih cs r' hh
            exact ⟨by simp; omega, by simp [putl, this.2]⟩
    obtain ⟨hlt, hp'⟩ := key _ cs r hp
    have hb' : (w.setCell ⟨b, o + i, none⟩ v).heap[b]? = some (.cells (cs.set (o + i) v).toArray E (0, 0)) := by
      simp only [World.setCell, Array.getElem?_modify, if_true, hb, Option.map_some]
      simp
    obtain ⟨w', hr, h2, h3, h4, h5, h6, h7⟩ := ih (i + 1) o _ r _ hb' h1.2 (by rw [← Nat.add_assoc]; exact hp')
    refine ⟨w', ?_, h2, fun k hk => ?_, ?_, h5, h6, h7⟩
    · unfold storeCells
      have hcell : w.cell? ⟨b, o + i, none⟩ = some cs[o + i] := by rw [World.cell_of hb]; simp [hlt]
      have hfz : w.frozen? ⟨b, o + i, none⟩ = false := by simp [World.frozen?, hb]
      simp only [store, bind, Sem.bind, Addr.add_eq]
      cases v <;> simp [oneCell] at h1 <;> simp only [Sem.run, hcell, hfz] <;> simpa using hr
    · rw [h3 k hk]
      simp only [World.setCell, Array.getElem?_modify]
      rw [if_neg (Ne.symm hk)]
    · rw [h4]; simp [World.setCell]

theorem At.store {ops : Array Oper} {rest : List Oper} {t : TypeId} {x y : Operand} {ty : TypeId} {pos : String} {aft : Array Edge} {b o : Nat} {v : Value} {vs cs r : List Value} {E : TypeId} {Rs' : List Res} {k : Nat}
    (hx : ev F x = some (.pointer (some ⟨b, o, none⟩))) (hy : ev F y = some v) (hv : cellsB v = some vs) (hs : sizeB P t = some k) (hk : vs.length = k) (h1 : vs.all oneCell = true)
    (hr : ∃ cs', cs' = cs ∧ putl cs' o vs = some r) (hp : Repl Rs (.blk b E cs) (.blk b E r) Rs')
    (h : At n w0 F m Rs' (wpList P ops Q rest)) : At n w0 F m Rs (wpList P ops Q (⟨none, .store t x y, ty, pos, aft, none⟩ :: rest)) := fun a w ha hw =>
  wpList_plain rfl fun K hK => by
    obtain ⟨cs', e, hr⟩ := hr
    subst e
    obtain ⟨T, hp1, _⟩ := hp.picks
    have hb := hw.blk hp1
    have hvc : v.cells.toList = vs := by
      rw [cellsB_eq hv]
    obtain ⟨w', hrun, h2, h3, h4, h5, h6, h7⟩ := run_storeCells (P := P) vs 0 o cs' r w hb h1 hr
    have hrun' : (execOp a.eval ⟨none, .store t x y, ty, pos, aft, none⟩).run P w = .ok .skip w' := by
      simp only [execOp, ha.ev hx, ha.ev hy, Instr.storeAt, Instr.sureAddr, storeVar, pure, Sem.run_bind, Sem.run, Result.andThen]
      rw [run_sizeOf hs]
      have : v.cells.size = k := by rw [← hk, ← hvc]; simp
      simp only [this, ne_eq, not_true, if_false]
      rw [hvc, hrun]
    unfold Oper.wp
    rw [hrun']
    exact hK _ _ (h _ _ ha (hw.upd hp h5 h6 h7 (by omega) (fun s hs => (hs.2 b).2 rfl) (fun k _ hk => h3 k hk) (fun s hs => ⟨s, ⟨h2, hs.2⟩, fun k hk => .inl hk⟩)))

def zeroB (P : Program) (t : TypeId) : Option (List Value) := match P.info? t with
  | some i => match i.zero with
    | some z => cellsB z
    | none => none
  | none => none

theorem At.alloc {ops : Array Oper} {rest : List Oper} {d : Nat} {t : TypeId} {ty : TypeId} {pos : String} {aft : Array Edge} {zs : List Value} (hz : zeroB P t = some zs) (hd : Nat.blt d n = true)
    (h : ∀ b, At n w0 ((d, .pointer (some ⟨b, 0, none⟩)) :: F) m (.blk b t zs :: Rs) (wpList P ops Q rest)) : At n w0 F m Rs (wpList P ops Q (⟨some d, .alloc t, ty, pos, aft, none⟩ :: rest)) := fun a w ha hw =>
  wpList_plain rfl fun K hK => by
    have hz' : ∃ i z, P.info? t = some i ∧ i.zero = some z ∧ z.cells = zs.toArray := by
      unfold zeroB at hz
      cases hi : P.info? t with
      | none => rw [hi] at hz; cases hz
      | some i =>
        rw [hi] at hz
        simp only at hz
        cases hzz : i.zero with
        | none => rw [hzz] at hz; cases hz
        | some z =>
          rw [hzz] at hz
          exact ⟨i, z, rfl, hzz, cellsB_eq hz⟩
    obtain ⟨i, z, hi, hzz, hc⟩ := hz'
    unfold Oper.wp
    have : (execOp a.eval ⟨some d, .alloc t, ty, pos, aft, none⟩).run P w = .ok (.value (.pointer (some ⟨w.heap.size, 0, none⟩))) { w with heap := w.heap.push (.cells zs.toArray t (0, 0)) } := by
      simp only [execOp, Instr.alloc, zeroValue, typeInfo, program, newVar, newRow, newObj, hi, hzz, hc, Sem.run, bind, Sem.bind, pure]
    rw [this]
    exact hK _ _ (h _ _ _ (ha.put hd) (hw.alloc t zs))
theorem At.box {ops : Array Oper} {rest : List Oper} {d : Nat} {t : TypeId} {x : Operand} {ty : TypeId} {pos : String} {aft : Array Edge} {v : Value} {zs : List Value} (hx : ev F x = some v) (hz : cellsB v = some zs) (hd : Nat.blt d n = true)
    (h : ∀ b, At n w0 ((d, .pointer (some ⟨b, 0, none⟩)) :: F) m (.blk b t zs :: Rs) (wpList P ops Q rest)) : At n w0 F m Rs (wpList P ops Q (⟨some d, .box t x, ty, pos, aft, none⟩ :: rest)) := fun a w ha hw =>
  wpList_plain rfl fun K hK => by
    have hc : v.cells = zs.toArray := cellsB_eq hz
    unfold Oper.wp
    have : (execOp a.eval ⟨some d, .box t x, ty, pos, aft, none⟩).run P w = .ok (.value (.pointer (some ⟨w.heap.size, 0, none⟩))) { w with heap := w.heap.push (.cells zs.toArray t (0, 0)) } := by
      simp only [execOp, ha.ev hx, Instr.box, newVar, newRow, newObj, hc, Sem.run, bind, Sem.bind, pure]
    rw [this]
    exact hK _ _ (h _ _ _ (ha.put hd) (hw.alloc t zs))

/-! ### calls -/
def evs (F : Fr) : List Operand → Option (List Value)
  | [] => some []
  | x :: xs => match ev F x with
    | some v => match evs F xs with
      | some vs => some (v :: vs)
      | none => none
    | none => none
theorem evs_map {a : Act} (ha : HF n F a) : ∀ (xs : List Operand) (vs : List Value), evs F xs = some vs → xs.map a.eval = vs
  | [], vs, h => by cases h; rfl
  | x :: xs, vs, h => by
    simp only [evs] at h
    cases hx : ev F x with
    | none => rw [hx] at h; cases h
    | some v =>
      rw [hx] at h
      simp only at h
      cases hxs : evs F xs with
      | none => rw [hxs] at h; cases h
      | some us =>
        rw [hxs] at h; cases h
        simp [ha.ev hx, evs_map ha xs us hxs]

/-- the callee is a Go function that the text names -/
def goFn (P : Program) (f : FuncId) : Bool := match P.funcs[f]? with
  | some fn => fn.body.isSome && !(fn.name == "runtime.NumGoroutine")
  | none => false
theorem run_callFunc {f : FuncId} (hg : goFn P f = true) (args : Array Value) (w : World) : (callFunc f args).run P w = .ok (.enter f args) w := by
  unfold goFn at hg
  cases hf : P.funcs[f]? with
  | none => rw [hf] at hg; cases hg
  | some fn =>
    rw [hf] at hg
    simp only [Bool.and_eq_true, Bool.not_eq_true'] at hg
    unfold callFunc
    simp only [program, bind, Sem.bind, Sem.run, hf, hg.2]
    have : fn.body.isNone = false := by
      cases hb : fn.body with
      | none => rw [hb] at hg; simp at hg
      | some c => rfl
    simp [this, pure]

theorem At.call {ops : Array Oper} {rest : List Oper} {d : Option Nat} {f : FuncId} {xs : List Operand} {ts : Array TypeId} {ty : TypeId} {pos : String} {aft : Array Edge} {vs : List Value} {A Rest : List Res} {R : Value → Mem → List Res → Prop}
    (hg : goFn P f = true) (hx : evs F xs = some vs) (hd : d.all (Nat.blt · n) = true) (hc : Ct P f vs.toArray m A R) (hA : Ent Rs (A ++ Rest))
    (h : ∀ v m' B, m.le m' → R v m' B → At n w0 (d.elim F (fun d => (d, v) :: F)) m' (B ++ Rest) (wpList P ops Q rest)) :
    At n w0 F m Rs (wpList P ops Q (⟨d, .call ⟨.value (.func f), xs.toArray, ts⟩, ty, pos, aft, none⟩ :: rest)) := fun a w ha hw =>
  wpList_plain rfl fun K hK => by
    unfold Oper.wp
    have : (execOp a.eval ⟨d, .call ⟨.value (.func f), xs.toArray, ts⟩, ty, pos, aft, none⟩).run P w = .ok (.enter f vs.toArray) w := by
      rw [execOp_call_go]
      have : (#[] ++ xs.toArray.map a.eval ++ #[] : Array Value) = vs.toArray := by simp [evs_map ha xs vs hx]
      rw [this, run_callFunc hg]
    rw [this]
    refine (hc w0 Rest w (hw.ent hA)).mono ?_
    rintro e w' ⟨v, m', B, rfl, hm, hR, hw'⟩
    refine hK _ _ (h v m' B hm hR _ _ ?_ hw')
    cases d with
    | none => exact ha
    | some d => exact ha.put (by simpa using hd)
/-- A call that yields a value and leaves all as it is. -/
def Pu (P : Program) (f : FuncId) (args : Array Value) (V : Value) : Prop := ∀ m, Ct P f args m [] (fun v m' B => v = V ∧ m' = m ∧ B = [])

theorem Pu.intro {f : FuncId} {args : Array Value} {V : Value} (h : ∀ m, Ct P f args m [] (fun v m' B => v = V ∧ m' = m ∧ B = [])) : Pu P f args V := h
theorem Pu.calls {f : FuncId} {args : Array Value} {V : Value} (h : Pu P f args V) {w : World} (hw : HW w0 m Rs w) : Calls P f args w fun e w' => e = .returned V ∧ HW w0 m Rs w' :=
  (h m w0 Rs w hw).mono fun _ _ ⟨v, m', B, he, _, ⟨hv, hm', hB⟩, hw'⟩ => by subst hv hm' hB; exact ⟨he, hw'⟩

theorem At.callp {ops : Array Oper} {rest : List Oper} {d : Nat} {f : FuncId} {xs : List Operand} {ts : Array TypeId} {ty : TypeId} {pos : String} {aft : Array Edge} {vs : List Value} {V : Value}
    (hg : goFn P f = true) (hx : evs F xs = some vs) (hd : Nat.blt d n = true) (hc : Pu P f vs.toArray V)
    (h : At n w0 ((d, V) :: F) m Rs (wpList P ops Q rest)) :
    At n w0 F m Rs (wpList P ops Q (⟨some d, .call ⟨.value (.func f), xs.toArray, ts⟩, ty, pos, aft, none⟩ :: rest)) :=
  At.call (A := []) (Rest := Rs) hg hx (by simpa using hd) (hc m) (Ent.refl _) fun v m' B _ ⟨hv, hm', hB⟩ => by subst hv hm' hB; exact h

/-- guards, case by case -/
theorem At.guard_nt {ops : Array Oper} {rest : List Oper} {d : Nat} {op : Op} {ty : TypeId} {pos : String} {aft : Array Edge} {j : Nat} {t : Nat}
    (hj : (ops[j]?).bind (·.dst) = some t) (ht : look t F = some (.bool false)) (hd : Nat.blt d n = true) (h : At n w0 ((d, undef) :: F) m Rs (wpList P ops Q rest)) :
    At n w0 F m Rs (wpList P ops Q (⟨some d, op, ty, pos, aft, some (j, true)⟩ :: rest)) := At.guard_n hj ht (by simp) hd h
theorem At.guard_nf {ops : Array Oper} {rest : List Oper} {d : Nat} {op : Op} {ty : TypeId} {pos : String} {aft : Array Edge} {j : Nat} {t : Nat}
    (hj : (ops[j]?).bind (·.dst) = some t) (ht : look t F = some (.bool true)) (hd : Nat.blt d n = true) (h : At n w0 ((d, undef) :: F) m Rs (wpList P ops Q rest)) :
    At n w0 F m Rs (wpList P ops Q (⟨some d, op, ty, pos, aft, some (j, false)⟩ :: rest)) := At.guard_n hj ht (by simp) hd h
theorem At.guard_nu {ops : Array Oper} {rest : List Oper} {d : Nat} {op : Op} {ty : TypeId} {pos : String} {aft : Array Edge} {j : Nat} {want : Bool} {t : Nat}
    (hj : (ops[j]?).bind (·.dst) = some t) (ht : look t F = some undef) (hd : Nat.blt d n = true) (h : At n w0 ((d, undef) :: F) m Rs (wpList P ops Q rest)) :
    At n w0 F m Rs (wpList P ops Q (⟨some d, op, ty, pos, aft, some (j, want)⟩ :: rest)) := At.guard_n hj ht (by simp [undef]) hd h
theorem At.guard_s {ops : Array Oper} {rest : List Oper} {d : Option Nat} {op : Op} {ty : TypeId} {pos : String} {aft : Array Edge} {j : Nat} {want : Bool} {t : Nat} {b : Bool}
    (hj : (ops[j]?).bind (·.dst) = some t) (ht : look t F = some (.bool b))
    (h1 : b = true → At n w0 ((t, .bool true) :: F) m Rs (wpList P ops Q (⟨d, op, ty, pos, aft, some (j, want)⟩ :: rest)))
    (h2 : b = false → At n w0 ((t, .bool false) :: F) m Rs (wpList P ops Q (⟨d, op, ty, pos, aft, some (j, want)⟩ :: rest))) :
    At n w0 F m Rs (wpList P ops Q (⟨d, op, ty, pos, aft, some (j, want)⟩ :: rest)) := by
  have _ := hj
  exact At.bsplit ht h1 h2
end
end Go.J
/- Regions that draw their order and leave what is known of the world as it is: one walk in the text's order. -/
set_option linter.unusedSimpArgs false
set_option linter.unusedVariables false
set_option linter.unusedSectionVars false
set_option maxRecDepth 20000
namespace Go.J
open Go

section
variable {P : Program} {n : Nat} {w0 : World} {F : Fr} {m : Mem} {Rs : List Res} {Q : Exit → Act → World → Prop} {K : Act → World → Prop} {C : World → Prop}

theorem At.regionf {id : Nat} {l0 l : List Oper} (e : flat l0 = some l) (h : At n w0 F m Rs (wpList P l.toArray Q l)) : At n w0 F m Rs ((Code.region id l0.toArray false).wp P Q) := by
  have := flat_eq l0 l e; subst this; exact At.region h

def AtQ (P : Program) (n : Nat) (F : Fr) (C : World → Prop) (ops : Array Oper) (Qq : Act → Prop) (rest : List Oper) : Prop := ∀ a, HF n F a → wpQuiet P ops C Qq rest a

theorem At.quiet {id : Nat} {l0 l : List Oper} (e : flat l0 = some l) (hm : P.follows .mixedOrders = true) (hB : Region.lexB .any l.toArray = true)
    (h : AtQ P n F (HW w0 m Rs) l.toArray (fun a' => ∀ w', HW w0 m Rs w' → Q .normal a' w') l) : At n w0 F m Rs ((Code.region id l0.toArray true).wp P Q) := fun a w ha hw => by
  have := flat_eq l0 l e; subst this
  exact wp_region_quiet (C := HW w0 m Rs) hm hB (hw.drawn _) (by simpa using h a ha)

variable {ops : Array Oper} {rest : List Oper} {Qq : Act → Prop}
theorem AtQ.nil (h : At n w0 F m Rs (Q .normal)) : AtQ P n F (HW w0 m Rs) ops (fun a' => ∀ w', HW w0 m Rs w' → Q .normal a' w') [] := fun a ha => wpQuiet_nil fun w' hw' => h a w' ha hw'

theorem AtQ.val {d : Nat} {op : Op} {ty : TypeId} {pos : String} {aft : Array Edge} {v : Value} (hp : PR P n F C op v) (hd : Nat.blt d n = true)
    (h : AtQ P n ((d, v) :: F) C ops Qq rest) : AtQ P n F C ops Qq (⟨some d, op, ty, pos, aft, none⟩ :: rest) := fun a ha => by
  unfold wpQuiet
  rw [if_pos (by simp [Region.wanted])]
  refine ⟨v, fun w hw => ?_, h _ (ha.put hd)⟩
  unfold Oper.quietAt
  rw [hp _ _ _ _ _ a w ha hw]
  exact ⟨rfl, rfl⟩

theorem AtQ.callp {d : Nat} {f : FuncId} {xs : List Operand} {ts : Array TypeId} {ty : TypeId} {pos : String} {aft : Array Edge} {vs : List Value} {V : Value}
    (hg : goFn P f = true) (hx : evs F xs = some vs) (hd : Nat.blt d n = true) (hc : Pu P f vs.toArray V)
    (h : AtQ P n ((d, V) :: F) (HW w0 m Rs) ops Qq rest) : AtQ P n F (HW w0 m Rs) ops Qq (⟨some d, .call ⟨.value (.func f), xs.toArray, ts⟩, ty, pos, aft, none⟩ :: rest) := fun a ha => by
  unfold wpQuiet
  rw [if_pos (by simp [Region.wanted])]
  refine ⟨V, fun w hw => ?_, h _ (ha.put hd)⟩
  unfold Oper.quietAt
  have : (execOp a.eval ⟨some d, .call ⟨.value (.func f), xs.toArray, ts⟩, ty, pos, aft, none⟩).run P w = .ok (.enter f vs.toArray) w := by
    rw [execOp_call_go]
    have : (#[] ++ xs.toArray.map a.eval ++ #[] : Array Value) = vs.toArray := by simp [evs_map ha xs vs hx]
    rw [this, run_callFunc hg]
  rw [this]
  exact ⟨rfl, hc.calls hw⟩

theorem yielded_of {a : Act} (ha : HF n F a) {j t : Nat} {b : Bool} (hj : (ops[j]?).bind (·.dst) = some t) (ht : look t F = some (.bool b)) (htn : Nat.blt t n = true) : yielded ops a.tmps j = some b := by
  have hv := ha.val t _ ht
  have hlt : t < a.tmps.size := by rw [ha.siz]; exact Nat.le_of_ble_eq_true htn
  unfold yielded
  rw [hj]
  simp only [Option.bind_some]
  rw [Array.getElem?_eq_getElem hlt]
  simp only [Array.getD_eq_getD_getElem?, Array.getElem?_eq_getElem hlt, Option.getD_some] at hv
  rw [hv]
theorem yielded_ne {a : Act} (ha : HF n F a) {j t : Nat} {v : Value} {want : Bool} (hj : (ops[j]?).bind (·.dst) = some t) (ht : look t F = some v) (hv : v ≠ .bool want) : ¬ (yielded ops a.tmps j == some want) = true := by
  have hx := ha.val t _ ht
  unfold yielded
  rw [hj]
  simp only [Option.bind_some]
  rcases Nat.lt_or_ge t a.tmps.size with hlt | hge
  · rw [Array.getElem?_eq_getElem hlt]
    simp only [Array.getD_eq_getD_getElem?, Array.getElem?_eq_getElem hlt, Option.getD_some] at hx
    rw [hx]
    cases v with
    | bool b => simp; intro e; subst e; exact hv rfl
    | _ => simp
  · rw [Array.getElem?_eq_none hge]; simp

theorem AtQ.guard_y {d : Option Tmp} {op : Op} {ty : TypeId} {pos : String} {aft : Array Edge} {j : Nat} {want : Bool} {t : Nat}
    (hj : (ops[j]?).bind (·.dst) = some t) (ht : look t F = some (.bool want)) (htn : Nat.blt t n = true) (h : AtQ P n F C ops Qq (⟨d, op, ty, pos, aft, none⟩ :: rest)) :
    AtQ P n F C ops Qq (⟨d, op, ty, pos, aft, some (j, want)⟩ :: rest) := fun a ha => by
  have h' := h a ha
  unfold wpQuiet at h' ⊢
  rw [if_pos (by simp [Region.wanted])] at h'
  rw [if_pos (by simp [Region.wanted, yielded_of ha hj ht htn])]
  exact h'
theorem AtQ.guard_n {d : Nat} {op : Op} {ty : TypeId} {pos : String} {aft : Array Edge} {j : Nat} {want : Bool} {t : Nat} {v : Value}
    (hj : (ops[j]?).bind (·.dst) = some t) (ht : look t F = some v) (hv : v ≠ .bool want) (hd : Nat.blt d n = true) (h : AtQ P n ((d, undef) :: F) C ops Qq rest) :
    AtQ P n F C ops Qq (⟨some d, op, ty, pos, aft, some (j, want)⟩ :: rest) := fun a ha => by
  have h' := h _ (ha.put hd)
  unfold wpQuiet
  rw [if_neg (by simpa [Region.wanted] using yielded_ne ha hj ht hv)]
  exact h'
theorem AtQ.guard_nt {d : Nat} {op : Op} {ty : TypeId} {pos : String} {aft : Array Edge} {j : Nat} {t : Nat}
    (hj : (ops[j]?).bind (·.dst) = some t) (ht : look t F = some (.bool false)) (hd : Nat.blt d n = true) (h : AtQ P n ((d, undef) :: F) C ops Qq rest) :
    AtQ P n F C ops Qq (⟨some d, op, ty, pos, aft, some (j, true)⟩ :: rest) := AtQ.guard_n hj ht (by simp) hd h
theorem AtQ.guard_nf {d : Nat} {op : Op} {ty : TypeId} {pos : String} {aft : Array Edge} {j : Nat} {t : Nat}
    (hj : (ops[j]?).bind (·.dst) = some t) (ht : look t F = some (.bool true)) (hd : Nat.blt d n = true) (h : AtQ P n ((d, undef) :: F) C ops Qq rest) :
    AtQ P n F C ops Qq (⟨some d, op, ty, pos, aft, some (j, false)⟩ :: rest) := AtQ.guard_n hj ht (by simp) hd h
theorem AtQ.guard_nu {d : Nat} {op : Op} {ty : TypeId} {pos : String} {aft : Array Edge} {j : Nat} {want : Bool} {t : Nat}
    (hj : (ops[j]?).bind (·.dst) = some t) (ht : look t F = some undef) (hd : Nat.blt d n = true) (h : AtQ P n ((d, undef) :: F) C ops Qq rest) :
    AtQ P n F C ops Qq (⟨some d, op, ty, pos, aft, some (j, want)⟩ :: rest) := AtQ.guard_n hj ht (by simp [undef]) hd h
theorem AtQ.note {t : Nat} {v v' : Value} {l : List Oper} (ht : look t F = some v) (e : v = v') (h : AtQ P n ((t, v') :: F) C ops Qq l) : AtQ P n F C ops Qq l := fun a ha => h a (ha.note ht e)
theorem AtQ.guard_s {d : Option Nat} {op : Op} {ty : TypeId} {pos : String} {aft : Array Edge} {j : Nat} {want : Bool} {t : Nat} {b : Bool}
    (hj : (ops[j]?).bind (·.dst) = some t) (ht : look t F = some (.bool b))
    (h1 : b = true → AtQ P n ((t, .bool true) :: F) C ops Qq (⟨d, op, ty, pos, aft, some (j, want)⟩ :: rest))
    (h2 : b = false → AtQ P n ((t, .bool false) :: F) C ops Qq (⟨d, op, ty, pos, aft, some (j, want)⟩ :: rest)) :
    AtQ P n F C ops Qq (⟨d, op, ty, pos, aft, some (j, want)⟩ :: rest) := by
  have _ := hj
  cases b
  · exact AtQ.note ht rfl (h2 rfl)
  · exact AtQ.note ht rfl (h1 rfl)
end
end Go.J
/- Slices: what they read as; those that a function owns; append, make, and the parts of a slice. -/
set_option linter.unusedSimpArgs false
set_option linter.unusedVariables false
set_option linter.unusedSectionVars false
set_option maxRecDepth 20000
namespace Go.J
open Go

def at_ (p : Option Addr) (k : Nat) : Addr := match p with
  | some a => ⟨a.block, a.off + k, none⟩
  | none => ⟨0, k, none⟩
theorem at_some (b o k : Nat) : at_ (some ⟨b, o, none⟩) k = ⟨b, o + k, none⟩ := rfl

def subp (p : Option Addr) (c lo sz : Nat) : Option Addr := if c = lo then p else p.map (·.add (lo * sz))

class Fl {α : Type} (f : α → List Value) (sz : outParam Nat) : Prop where
  len : ∀ x, (f x).length = sz
  one : ∀ x, ∀ v ∈ f x, v.oneCell' = true
  pos : 0 < sz

section
variable {α : Type} [Inhabited α] {f : α → List Value} {sz : Nat}

theorem flatMap_length (hf : ∀ x, (f x).length = sz) : ∀ l : List α, (l.flatMap f).length = l.length * sz
  | [] => by simp
  | x :: l => by rw [List.flatMap_cons, List.length_append, hf, flatMap_length hf l, List.length_cons, Nat.add_mul]; omega
theorem flatMap_get (hf : ∀ x, (f x).length = sz) : ∀ (l : List α) (i j : Nat), i < l.length → j < sz → (l.flatMap f)[i * sz + j]? = (f l[i]!)[j]?
  | [], i, _, h, _ => by simp at h
  | x :: l, 0, j, _, hj => by
    rw [List.flatMap_cons, Nat.zero_mul, Nat.zero_add, List.getElem?_append_left (by rw [hf]; exact hj)]
    rfl
  | x :: l, i + 1, j, h, hj => by
    rw [List.flatMap_cons, List.getElem?_append_right (by rw [hf, Nat.add_mul]; omega), hf]
    rw [show (i + 1) * sz + j - sz = i * sz + j by rw [Nat.add_mul]; omega, flatMap_get hf l i j (by simpa using h) hj]
    rfl

/-- a slice's cells, in every world of a class -/
structure Rdb (C : World → Prop) (f : α → List Value) (sz : Nat) (p : Option Addr) (c : Nat) (l : List α) : Prop where
  fl : Fl f sz
  some : ∀ w, C w → l ≠ [] → ∃ b o, p = some ⟨b, o, none⟩
  le : ∀ w, C w → l.length ≤ c
  cell : ∀ w, C w → ∀ i j, i < l.length → j < sz → w.cell? (at_ p (i * sz + j)) = (f l[i]!)[j]?

/-- a slice over memory that stays as it is -/
structure Sl (m : Mem) (f : α → List Value) (sz : Nat) (p : Option Addr) (c : Nat) (l : List α) : Prop where
  fl : Fl f sz
  le : l.length ≤ c
  big : c ≤ maxLen
  nil : p = none → c = 0
  some : ∀ a, p = some a → 0 < c → a.spot = none ∧ ∃ E cs fz, m a.block = some (.cells cs E fz) ∧ a.off + c * sz ≤ cs.size ∧ ∀ i j, i < l.length → j < sz → cs[a.off + (i * sz + j)]? = (f l[i]!)[j]?

theorem Sl.mono {m m' : Mem} {p : Option Addr} {c : Nat} {l : List α} (h : Sl m f sz p c l) (hm : m.le m') : Sl m' f sz p c l :=
  ⟨h.fl, h.le, h.big, h.nil, fun a ha hp => let ⟨h1, E, cs, fz, h2, h3⟩ := h.some a ha hp; ⟨h1, E, cs, fz, hm _ _ h2, h3⟩⟩
theorem Sl.empty (m : Mem) (hf : Fl f sz) : Sl m f sz none 0 ([] : List α) :=
  ⟨hf, Nat.le_refl _, Nat.zero_le _, fun _ => rfl, fun _ h _ => by cases h⟩
theorem Sl.rdb {w0 : World} {m : Mem} {Rs : List Res} {p : Option Addr} {c : Nat} {l : List α} (h : Sl m f sz p c l) : Rdb (HW w0 m Rs) f sz p c l := by
  refine ⟨h.fl, fun _ _ hl => ?_, fun _ _ => h.le, fun w hw i j hi hj => ?_⟩
  · cases p with
    | none => have := h.nil rfl; have := h.le; exact absurd (List.eq_nil_of_length_eq_zero (by omega)) hl
    | some a =>
      obtain ⟨h1, _⟩ := h.some a rfl (by have := h.le; have : 0 < l.length := List.length_pos_iff.2 hl; omega)
      exact ⟨a.block, a.off, by cases a; simp at h1; subst h1; rfl⟩
  · cases p with
    | none => have := h.nil rfl; have := h.le; omega
    | some a =>
      obtain ⟨h1, E, cs, fz, h2, h3, h4⟩ := h.some a rfl (by have := h.le; omega)
      show w.cell? ⟨a.block, a.off + (i * sz + j), none⟩ = _
      rw [World.cell_of (hw.mem _ _ h2)]
      exact h4 i j hi hj

/-- a slice that a function owns, with all of its block -/
def Res.own {α : Type} (f : α → List Value) (sz : Nat) (E : TypeId) (p : Option Addr) (c : Nat) (l : List α) : Res where
  p w s := (p = none ∧ c = 0 ∧ l = [] ∧ ∀ k, ¬ s k) ∨ ∃ g o cur, p = some ⟨g, o, none⟩ ∧ w.heap[g]? = some (.cells cur E (0, 0)) ∧ l.length ≤ c ∧ c ≤ maxLen ∧ o + c * sz ≤ cur.size ∧ (∀ j, j < l.length * sz → cur[o + j]? = (l.flatMap f)[j]?) ∧ ∀ k, s k ↔ k = g
  loc := fun {w w' s} h he => by
    rcases h with h | ⟨g, o, cur, h1, h2, h3, h4, h5, h6, h7⟩
    · exact .inl h
    · exact .inr ⟨g, o, cur, h1, by rw [he g ((h7 g).2 rfl)]; exact h2, h3, h4, h5, h6, h7⟩
  dom := fun {w s k} h hk => by
    rcases h with h | ⟨g, o, cur, h1, h2, h3, h4, h5, h6, h7⟩
    · exact absurd hk (h.2.2.2 k)
    · rw [(h7 k).1 hk]; exact (Array.getElem?_eq_some_iff.1 h2).1

theorem own_cell {w : World} {s : Nat → Prop} {E : TypeId} {p : Option Addr} {c : Nat} {l : List α} (hf : Fl f sz) (h : (Res.own f sz E p c l).p w s) (i j : Nat) (hi : i < l.length) (hj : j < sz) :
    w.cell? (at_ p (i * sz + j)) = (f l[i]!)[j]? := by
  rcases h with ⟨_, _, rfl, _⟩ | ⟨g, o, cur, rfl, h2, h3, h4, h5, h6, h7⟩
  · simp at hi
  · show w.cell? ⟨g, o + (i * sz + j), none⟩ = _
    have : (i + 1) * sz ≤ l.length * sz := Nat.mul_le_mul_right _ hi
    rw [World.cell_of h2, h6 _ (by rw [Nat.add_mul] at this; omega), flatMap_get hf.len l i j hi hj]

theorem own_rdb {w0 : World} {m : Mem} {Rs Rs' : List Res} {E : TypeId} {p : Option Addr} {c : Nat} {l : List α} (hf : Fl f sz) (hp : Pick Rs (.own f sz E p c l) Rs') : Rdb (HW w0 m Rs) f sz p c l := by
  refine ⟨hf, fun w hw hl => ?_, fun w hw => ?_, fun w hw i j hi hj => let ⟨_, h⟩ := hw.get hp; own_cell hf h i j hi hj⟩
  · obtain ⟨_, ⟨_, _, rfl, _⟩ | ⟨g, o, cur, rfl, _⟩⟩ := hw.get hp
    · exact absurd rfl hl
    · exact ⟨_, _, rfl⟩
  · obtain ⟨_, ⟨_, _, rfl, _⟩ | ⟨g, o, cur, rfl, _, h3, _⟩⟩ := hw.get hp
    · exact Nat.zero_le _
    · exact h3

/-- a part of what can be read -/
theorem Rdb.sub {C : World → Prop} {p : Option Addr} {c : Nat} {l : List α} (h : Rdb C f sz p c l) (lo hi : Nat) (h1 : lo ≤ hi) (h2 : hi ≤ l.length) : Rdb C f sz (subp p c lo sz) (c - lo) ((l.take hi).drop lo) := by
  have hlen : ((l.take hi).drop lo).length = hi - lo := by simp; omega
  refine ⟨h.fl, fun w hw hl => ?_, fun w hw => ?_, fun w hw i j hi' hj => ?_⟩
  · have hlt : lo < hi := by
      rcases Nat.lt_or_ge lo hi with h | h
      · exact h
      · exact absurd (List.eq_nil_of_length_eq_zero (by rw [hlen]; omega)) hl
    obtain ⟨b, o, rfl⟩ := h.some w hw (fun e => by subst e; simp at h2; omega)
    unfold subp
    have := h.le w hw
    rw [if_neg (by omega)]
    exact ⟨b, o + lo * sz, by simp [Addr.add_eq]⟩
  · rw [hlen]; have := h.le w hw; omega
  · rw [hlen] at hi'
    have hle := h.le w hw
    obtain ⟨b, o, rfl⟩ := h.some w hw (fun e => by subst e; simp at h2; omega)
    have hx := h.cell w hw (lo + i) j (by omega) hj
    have key : (f ((l.take hi).drop lo)[i]!)[j]? = (f l[lo + i]!)[j]? := by
      congr 2
      rw [List.getElem!_eq_getElem?_getD, List.getElem!_eq_getElem?_getD, List.getElem?_drop, List.getElem?_take, if_pos (by omega)]
    rw [key, ← hx]
    unfold subp
    rw [if_neg (by omega)]
    simp only [Option.map_some, Addr.add_eq, at_]
    congr 2
    rw [Nat.add_mul]; omega
end

section
variable {P : Program} {n : Nat} {w0 : World} {F : Fr} {m : Mem} {Rs : List Res} {Q : Exit → Act → World → Prop} {K : Act → World → Prop} {C : World → Prop}
variable {α : Type} [Inhabited α] {f : α → List Value} {sz : Nat}

theorem At.pure {φ : Prop} (h1 : ∀ w, HW w0 m Rs w → φ) (h : φ → At n w0 F m Rs K) : At n w0 F m Rs K := fun a w ha hw => h (h1 w hw) a w ha hw

/-- what is known of an owned slice's form -/
theorem At.own_form {E : TypeId} {p : Option Addr} {c : Nat} {l : List α} {Rs' : List Res} (hp : Pick Rs (.own f sz E p c l) Rs')
    (h : (l ≠ [] → ∃ b o, p = some ⟨b, o, none⟩) → l.length ≤ c → c ≤ maxLen → At n w0 F m Rs K) : At n w0 F m Rs K := fun a w ha hw => by
  obtain ⟨_, h1⟩ := hw.get hp
  rcases h1 with ⟨_, rfl, rfl, _⟩ | ⟨g, o, cur, rfl, h2, h3, h4, h5, h6, h7⟩
  · exact h (fun hl => absurd rfl hl) (Nat.le_refl _) (Nat.zero_le _) a w ha hw
  · exact h (fun hl => ⟨_, _, rfl⟩) h3 h4 a w ha hw

theorem At.own_nil (f : α → List Value) (sz : Nat) (E : TypeId) (h : At n w0 F m (.own f sz E none 0 ([] : List α) :: Rs) K) : At n w0 F m Rs K := fun a w ha hw => by
  exact h a w ha (hw.add rfl rfl rfl (Nat.le_refl _) (fun _ _ => rfl) ⟨fun _ => False, .inl ⟨rfl, rfl, rfl, fun _ h => h⟩, fun _ h => h.elim⟩)

theorem own_nil_ent (f : α → List Value) (sz : Nat) (E : TypeId) (Rs : List Res) : Ent Rs (.own f sz E none 0 ([] : List α) :: Rs) := fun w s h =>
  ⟨s, ⟨fun _ => False, s, .inl ⟨rfl, rfl, rfl, fun _ h => h⟩, h, fun k x => x.1, fun k => by simp⟩, fun _ x => x⟩

theorem At.own_freeze {E : TypeId} {p : Option Addr} {c : Nat} {l : List α} {Rs' : List Res} (hf : Fl f sz) (hp : Pick Rs (.own f sz E p c l) Rs')
    (h : ∀ m' : Mem, m.le m' → Sl m' f sz p c l → At n w0 F m' Rs' K) : At n w0 F m Rs K := fun a w ha hw => by
  obtain ⟨s, ⟨s1, s2, h1, h2, hd, he⟩, hm⟩ := (hw.ent (Ent.of_pick hp)).res
  rcases h1 with ⟨rfl, rfl, rfl, hs⟩ | ⟨g, o, cur, rfl, h4, h5, h6, h7, h8, hg⟩
  · exact h m (Mem.le_refl _) (Sl.empty m hf) a w ha ⟨hw.os, hw.tape, hw.output, hw.size, hw.mem, s2, h2, fun k hk => hm k ((he k).2 (.inr hk))⟩
  · have hmb : m g = none := hm g ((he g).2 (.inl ((hg g).2 rfl)))
    refine h (fun k => if k = g then some (.cells cur E (0, 0)) else m k) (fun k o hk => ?_) ⟨hf, h5, h6, (fun e => by cases e), fun a' ha' _ => ?_⟩ a w ha
      ⟨hw.os, hw.tape, hw.output, hw.size, fun k o hk => ?_, s2, h2, fun k hk => ?_⟩
    · show (if k = g then _ else _) = _
      rw [if_neg (fun e => by subst e; rw [hmb] at hk; cases hk)]; exact hk
    · cases ha'
      refine ⟨rfl, E, cur, (0, 0), if_pos rfl, h7, fun i j hi hj => ?_⟩
      have : (i + 1) * sz ≤ l.length * sz := Nat.mul_le_mul_right _ hi
      show cur[o + (i * sz + j)]? = _
      rw [h8 _ (by rw [Nat.add_mul] at this; omega), flatMap_get hf.len l i j hi hj]
    · by_cases e : k = g
      · subst e
        rw [if_pos rfl] at hk; cases hk; exact h4
      · rw [if_neg e] at hk; exact hw.mem k o hk
    · show (if k = g then _ else _) = _
      rw [if_neg (fun e => hd k ⟨(hg k).2 e, hk⟩)]
      exact hm k ((he k).2 (.inr hk))

/-! ### an element -/
theorem run_indexAt {t e : TypeId} {sz : Nat} (ht : P.underlying t = some (.slice e)) (hs : sizeB P e = some sz) (b o l c k : Nat) (ki : IntKind) (hk : k < l) (w : World) :
    (Instr.indexAt t (.slice (some ⟨b, o, none⟩) l c) (.int ki (k : Int))).run P w = .ok (.pointer (some ⟨b, o + k * sz, none⟩)) w := by
  have hr : ∀ w, (underlying t).run P w = .ok (.slice e) w := fun w => by simp only [underlying, program, bind, Sem.bind, Sem.run, ht]; rfl
  have h1 : (0 : Int) ≤ (k : Int) ∧ (k : Int) < (l : Int) := ⟨by omega, by omega⟩
  unfold Instr.indexAt
  simp only [asIntOf, pure, Sem.run_bind, Sem.run, Result.andThen, hr, h1, and_self, if_true, run_sizeOf hs, Int.toNat_natCast, Addr.add_eq]

theorem pr_indexAddr {x y : Operand} {t e : TypeId} {p : Option Addr} {l : List α} {ln c k : Nat} {ki : IntKind} (h : Rdb C f sz p c l) (ht : P.underlying t = some (.slice e)) (hs : sizeB P e = some sz)
    (hx : ev F x = some (.slice p ln c)) (hy : ev F y = some (.int ki (k : Int))) (hl : ln = l.length) (hk : k < l.length) : PR P n F C (.indexAddr t x y) (.pointer (some (at_ p (k * sz)))) := fun _ _ _ _ _ a w ha hC => by
  obtain ⟨b, o, rfl⟩ := h.some w hC (fun e => by subst e; simp at hk)
  simp only [execOp, ha.ev hx, ha.ev hy, Sem.run_bind, run_indexAt ht hs b o ln c k ki (by omega)]
  rfl

theorem pr_load_sl1 {x : Operand} {t : TypeId} {p : Option Addr} {l : List α} {k : Nat} {v : Value} {c : Nat} (h : Rdb C f sz p c l) (hk : k < l.length) (ht : isAggB P t = some false) (hx : ev F x = some (.pointer (some (at_ p (k * sz)))))
    (hv : flat (f l[k]!) = some [v]) : PR P n F C (.load t x) v := fun d ty pos aft g a w ha hC => by
  obtain ⟨b, o, rfl⟩ := h.some w hC (fun e => by subst e; simp at hk)
  have := flat_eq _ _ hv
  refine pr_load1 ht hx (fun w hw => ?_) d ty pos aft g a w ha hC
  have hc := h.cell w hw k 0 hk h.fl.pos
  rw [← this] at hc
  exact hc
theorem pr_load_slN {x : Operand} {t : TypeId} {p : Option Addr} {l : List α} {k : Nat} {vs : List Value} {c : Nat} (h : Rdb C f sz p c l) (hk : k < l.length) (ht : isAggB P t = some true) (hs : sizeB P t = some sz) (hx : ev F x = some (.pointer (some (at_ p (k * sz)))))
    (hv : flat (f l[k]!) = some vs) : PR P n F C (.load t x) (.agg vs.toArray) := fun d ty pos aft g a w ha hC => by
  obtain ⟨b, o, rfl⟩ := h.some w hC (fun e => by subst e; simp at hk)
  have e := flat_eq _ _ hv
  have hlen := h.fl.len l[k]!
  rw [← e] at hlen
  refine pr_loadN ht hx (by rw [hlen]; exact hs) (fun w hw j hj => ?_) d ty pos aft g a w ha hC
  have hc := h.cell w hw k j hk (by omega)
  rw [← e] at hc
  rw [show o + k * sz + j = o + (k * sz + j) by omega]
  exact hc
theorem pr_load_slf {x : Operand} {t : TypeId} {p : Option Addr} {l : List α} {k j : Nat} {v : Value} {c : Nat} (h : Rdb C f sz p c l) (hk : k < l.length) (hj : Nat.blt j sz = true) (ht : isAggB P t = some false) (hx : ev F x = some (.pointer (some (at_ p (k * sz + j)))))
    (hv : nthl (f l[k]!) j = some v) : PR P n F C (.load t x) v := fun d ty pos aft g a w ha hC => by
  obtain ⟨b, o, rfl⟩ := h.some w hC (fun e => by subst e; simp at hk)
  refine pr_load1 ht hx (fun w hw => ?_) d ty pos aft g a w ha hC
  have hc := h.cell w hw k j hk (Nat.le_of_ble_eq_true hj)
  rw [nthl_eq] at hv
  rw [hv] at hc
  exact hc
theorem pr_load_slfN {x : Operand} {t : TypeId} {p : Option Addr} {l : List α} {k j q : Nat} {vs : List Value} {c : Nat} (h : Rdb C f sz p c l) (hk : k < l.length) (hj : Nat.ble (j + q) sz = true) (ht : isAggB P t = some true) (hs : sizeB P t = some q) (hx : ev F x = some (.pointer (some (at_ p (k * sz + j)))))
    (hv : subl (f l[k]!) j q = some vs) : PR P n F C (.load t x) (.agg vs.toArray) := fun d ty pos aft g a w ha hC => by
  obtain ⟨b, o, rfl⟩ := h.some w hC (fun e => by subst e; simp at hk)
  have hl := subl_length _ _ _ _ hv
  have hj' := Nat.le_of_ble_eq_true hj
  refine pr_loadN ht hx (by rw [hl]; exact hs) (fun w hw i hi => ?_) d ty pos aft g a w ha hC
  have hc := h.cell w hw k (j + i) hk (by omega)
  rw [subl_get _ _ _ _ hv i (by omega)] at hc
  rw [show o + (k * sz + j) + i = o + (k * sz + (j + i)) by omega]
  exact hc
theorem pr_fieldAddr_at {x : Operand} {s : TypeId} {fi off k : Nat} {p : Option Addr} (hx : ev F x = some (.pointer (some (at_ p k)))) (hf : fieldB P s fi = some off) : PR P n F C (.fieldAddr s x fi) (.pointer (some (at_ p (k + off)))) := fun _ _ _ _ _ a w ha _ => by
  simp only [execOp, ha.ev hx, Sem.run_bind]
  rw [run_fieldAt hf]
  cases p <;> simp only [at_, Addr.add_eq, Result.andThen, pure, Sem.run, Nat.add_assoc]

theorem pr_fieldAddr_at2 {x : Operand} {s : TypeId} {fi off k q j r : Nat} {p : Option Addr} (hx : ev F x = some (.pointer (some (at_ p (k * q + j))))) (hf : fieldB P s fi = some off) (hr : litN (j + off) = some r) : PR P n F C (.fieldAddr s x fi) (.pointer (some (at_ p (k * q + r)))) := by
  rw [litN_eq] at hr; cases hr
  have := pr_fieldAddr_at (C := C) (n := n) hx hf
  rwa [Nat.add_assoc] at this

/-! ### parts of a slice -/
theorem Sl.sub {p : Option Addr} {c lo hi : Nat} {l : List α} (h : Sl m f sz p c l) (h1 : lo ≤ hi) (h2 : hi ≤ l.length) : Sl m f sz (subp p c lo sz) (c - lo) ((l.take hi).drop lo) := by
  have hle := h.le
  have hlen : ((l.take hi).drop lo).length = hi - lo := by simp; omega
  refine ⟨h.fl, by rw [hlen]; omega, by have := h.big; omega, fun hn => ?_, fun a ha hpos => ?_⟩
  · unfold subp at hn
    split at hn
    · omega
    · cases p with
      | none => have := h.nil rfl; omega
      | some a => cases hn
  · have key : ∀ i j, i < hi - lo → j < sz → (f ((l.take hi).drop lo)[i]!)[j]? = (f l[lo + i]!)[j]? := fun i j hi' _ => by
      congr 2
      rw [List.getElem!_eq_getElem?_getD, List.getElem!_eq_getElem?_getD, List.getElem?_drop, List.getElem?_take, if_pos (by omega)]
    unfold subp at ha
    by_cases e : c = lo
    · rw [if_pos e] at ha
      obtain ⟨g1, E, cs, fz, g2, g3, g4⟩ := h.some a ha (by omega)
      exact ⟨g1, E, cs, fz, g2, by rw [show c - lo = 0 by omega]; omega, fun i j hi' => by rw [hlen] at hi'; omega⟩
    · rw [if_neg e] at ha
      cases p with
      | none => cases ha
      | some a0 =>
        obtain ⟨g1, E, cs, fz, g2, g3, g4⟩ := h.some a0 rfl (by omega)
        have ha0 : a = ⟨a0.block, a0.off + lo * sz, none⟩ := by
          have := Option.some.inj ha
          rw [← this]
          cases a0; simp at g1; subst g1
          exact Addr.add_eq _ _ _
        subst ha0
        have hsub : (c - lo) * sz + lo * sz = c * sz := by rw [← Nat.add_mul]; congr 1; omega
        refine ⟨rfl, E, cs, fz, g2, ?_, fun i j hi' hj => ?_⟩
        · show a0.off + lo * sz + (c - lo) * sz ≤ _; omega
        · rw [hlen] at hi'
          rw [key i j hi' hj, ← g4 (lo + i) j (by omega) hj]
          show cs[a0.off + lo * sz + (i * sz + j)]? = _
          rw [show a0.off + lo * sz + (i * sz + j) = a0.off + ((lo + i) * sz + j) by rw [Nat.add_mul]; omega]

theorem run_slice_sl {t e : TypeId} (ht : P.underlying t = some (.slice e)) (hs : sizeB P e = some sz) (p : Option Addr) (l c lo hi : Nat) (h1 : lo ≤ hi) (h2 : hi ≤ c) (vl vh : Option Value)
    (hl : (vl = none ∧ lo = 0) ∨ ∃ k, vl = some (.int k (lo : Int))) (hh : (vh = none ∧ hi = l) ∨ ∃ k, vh = some (.int k (hi : Int))) (w : World) :
    (Instr.sliceAt t (.slice p l c) vl vh none).run P w = .ok (.slice (subp p c lo sz) (hi - lo) (c - lo)) w := by
  have hr : ∀ w, (underlying t).run P w = .ok (.slice e) w := fun w => by simp only [underlying, program, bind, Sem.bind, Sem.run, ht]; rfl
  have a1 : (0 : Int) ≤ (lo : Int) ∧ (lo : Int) ≤ (hi : Int) := ⟨by omega, by omega⟩
  have a2 : (0 : Int) ≤ (hi : Int) ∧ (hi : Int) ≤ (c : Int) := ⟨by omega, by omega⟩
  unfold Instr.sliceAt
  simp only [Sem.run_bind, hr, Result.andThen]
  unfold Instr.slice
  simp only [Sem.run_bind, hr, Result.andThen]
  have hb : (Instr.sliceBounds true l c vl vh none).run P w = .ok (lo, hi, c) w := by
    unfold Instr.sliceBounds Instr.sliceBound
    rcases hl with ⟨rfl, rfl⟩ | ⟨k, rfl⟩ <;> rcases hh with ⟨rfl, rfl⟩ | ⟨k', rfl⟩ <;>
      simp [asIntOf, pure, Sem.run, bind, Sem.bind, h1, h2]
  rw [hb]
  simp only [run_sizeOf hs, pure, Sem.run, subp]

theorem pr_slice {x : Operand} {t e : TypeId} {p : Option Addr} {l c : Nat} (lo hi : Nat) (vl vh : Option Operand) (ht : P.underlying t = some (.slice e)) (hs : sizeB P e = some sz) (hx : ev F x = some (.slice p l c))
    (hl : (vl = none ∧ lo = 0) ∨ ∃ y k, vl = some y ∧ ev F y = some (.int k (lo : Int))) (hh : (vh = none ∧ hi = l) ∨ ∃ y k, vh = some y ∧ ev F y = some (.int k (hi : Int))) (h1 : lo ≤ hi) (h2 : hi ≤ c) :
    PR P n F C (.slice t x vl vh none) (.slice (subp p c lo sz) (hi - lo) (c - lo)) := fun _ _ _ _ _ a w ha _ => by
  simp only [execOp, ha.ev hx, Sem.run_bind, Option.map_none]
  rw [run_slice_sl ht hs p l c lo hi h1 h2 (vl.map a.eval) (vh.map a.eval) ?_ ?_ w]
  · rfl
  · rcases hl with ⟨rfl, rfl⟩ | ⟨y, k, rfl, hy⟩
    · exact .inl ⟨rfl, rfl⟩
    · exact .inr ⟨k, by simp [ha.ev hy]⟩
  · rcases hh with ⟨rfl, rfl⟩ | ⟨y, k, rfl, hy⟩
    · exact .inl ⟨rfl, rfl⟩
    · exact .inr ⟨k, by simp [ha.ev hy]⟩

/-! ### append -/
theorem rdb_cells {w : World} {p : Option Addr} {l : List α} {c : Nat} (h : Rdb C f sz p c l) (hw : C w) (b o : Nat) (hp : p = some ⟨b, o, none⟩) (j : Nat) (hj : j < l.length * sz) : w.cell? ⟨b, o + j, none⟩ = (l.flatMap f)[j]? := by
  have hpos := h.fl.pos
  have hd : j / sz < l.length := Nat.div_lt_of_lt_mul (by rw [Nat.mul_comm]; exact hj)
  have hm : j % sz < sz := Nat.mod_lt _ hpos
  have hc := h.cell w hw (j / sz) (j % sz) hd hm
  rw [← flatMap_get h.fl.len l _ _ hd hm] at hc
  have e : j / sz * sz + j % sz = j := by rw [Nat.mul_comm]; exact Nat.div_add_mod j sz
  rw [e] at hc
  subst hp
  exact hc

theorem rdb_src {w : World} {p : Option Addr} {c : Nat} {l : List α} {t e : TypeId} (h : Rdb C f sz p c l) (hw : C w) (ht : P.underlying t = some (.slice e)) : Src P sz t (.slice p l.length c) l.length (l.flatMap f) w := by
  have hlen := flatMap_length h.fl.len l
  have run : ∀ w', (∀ b o j, w'.cell? ⟨b, o + j, none⟩ = w.cell? ⟨b, o + j, none⟩) → (Builtin.firstCells sz l.length (.slice p l.length c)).run P w' = .ok (l.flatMap f).toArray w' := fun w' he => by
    by_cases hl : l = []
    · subst hl
      cases p with
      | none => rfl
      | some a => simp [Builtin.firstCells, loadCells, loadCellsFrom, pure, Sem.run]
    · obtain ⟨b, o, rfl⟩ := h.some w hw hl
      show (loadCells ⟨b, o, none⟩ (l.length * sz)).run P w' = _
      rw [← hlen]
      refine run_loadCells w' b o _ fun j hj => ?_
      rw [he, rdb_cells h hw b o rfl j (by rw [← hlen]; exact hj)]
  refine ⟨.inl ⟨e, ht⟩, fun _ => rfl, run w fun _ _ _ => rfl, run w.drew fun _ _ _ => rfl, hlen, fun u hu => ?_⟩
  obtain ⟨x, _, hx⟩ := List.mem_flatMap.1 hu
  exact h.fl.one x u hx

/-- a part of what one owns is owned -/
theorem own_sub (hf : Fl f sz) {E : TypeId} {p : Option Addr} {c : Nat} {l : List α} (lo hi : Nat) (h1 : lo ≤ hi) (h2 : hi ≤ l.length) (Rs : List Res) :
    Ent (.own f sz E p c l :: Rs) (.own f sz E (subp p c lo sz) (c - lo) ((l.take hi).drop lo) :: Rs) := fun w s ⟨s1, s2, hs1, hs2, hd, he⟩ => by
  refine ⟨s, ⟨s1, s2, ?_, hs2, hd, he⟩, fun _ x => x⟩
  have hlen : ((l.take hi).drop lo).length = hi - lo := by simp; omega
  rcases hs1 with ⟨rfl, rfl, rfl, hs⟩ | ⟨g, o, cur, rfl, h4, h5, h6, h7, h8, hg⟩
  · simp only [List.length_nil] at h2
    have : lo = 0 := by omega
    subst this
    refine .inl ⟨by simp [subp], rfl, by simp, hs⟩
  · by_cases e : c = lo
    · have hl0 : (l.take hi).drop lo = [] := List.eq_nil_of_length_eq_zero (by rw [hlen]; omega)
      refine .inr ⟨g, o, cur, by unfold subp; rw [if_pos e], h4, by rw [hlen]; omega, by omega, by subst e; simp; omega, fun j hj => by rw [hl0] at hj; simp at hj, hg⟩
    · have hsub : (c - lo) * sz + lo * sz = c * sz := by rw [← Nat.add_mul]; congr 1; omega
      refine .inr ⟨g, o + lo * sz, cur, by unfold subp; rw [if_neg e]; simp [Addr.add_eq], h4, by rw [hlen]; omega, by omega, by omega, fun j hj => ?_, hg⟩
      rw [hlen] at hj
      have hpos := hf.pos
      have hdv : j / sz < hi - lo := Nat.div_lt_of_lt_mul (by rw [Nat.mul_comm]; exact hj)
      have hmd : j % sz < sz := Nat.mod_lt _ hpos
      have ej : j = j / sz * sz + j % sz := by rw [Nat.mul_comm]; exact (Nat.div_add_mod j sz).symm
      have hb : (lo + j / sz + 1) * sz ≤ l.length * sz := Nat.mul_le_mul_right _ (by omega)
      have hx := h8 (lo * sz + j) (by
        rw [Nat.add_mul, Nat.add_mul] at hb; omega)
      rw [Nat.add_assoc, hx]
      generalize j / sz = q at *
      generalize j % sz = r at *
      subst ej
      rw [show lo * sz + (q * sz + r) = (lo + q) * sz + r by rw [Nat.add_mul]; omega, flatMap_get hf.len l _ _ (by omega) hmd, flatMap_get hf.len _ _ _ (by rw [hlen]; omega) hmd]
      congr 2
      rw [List.getElem!_eq_getElem?_getD, List.getElem!_eq_getElem?_getD, List.getElem?_drop, List.getElem?_take, if_pos (by omega)]

/-- append to what one owns, of whatever can be read; where it goes -/
theorem run_append_own (hf : Fl f sz) {w : World} {t tx ty e : TypeId} {i : TypeInfo} {z : Value} (ht : P.underlying t = some (.slice e)) (hi : P.info? e = some i) (hz : i.zero = some z) (hsz : i.size = sz) (hzs : z.cells.size = sz)
    {p : Option Addr} {c : Nat} {l l2 : List α} {s : Nat → Prop} (hown : (Res.own f sz e p c l).p w s) {x : Value} (hs : Src P sz tx x l2.length (l2.flatMap f) w) (h63 : l.length + l2.length ≤ maxLen) (hbytes : (l.length + l2.length) * i.bytes ≤ 140737488355328) :
    ∃ p' c' w' s', (Builtin.append_ #[t, tx] ty #[.slice p l.length c, x]).run P w = .ok (.slice p' (l ++ l2).length c') w' ∧ (Res.own f sz e p' c' (l ++ l2)).p w' s' ∧ w'.os = w.os ∧ w'.tape = w.tape ∧ w'.output = w.output ∧ w.heap.size ≤ w'.heap.size ∧
      (∀ k, k < w.heap.size → ¬ s k → w'.heap[k]? = w.heap[k]?) ∧ (∀ k, s' k → s k ∨ w.heap.size ≤ k) := by
  have hsmall : ((l.length + l2.length : Nat) : Int) ≤ 9223372036854775807 := by simp only [maxLen] at h63; omega
  have hl1 := flatMap_length hf.len l
  have hl2 := flatMap_length hf.len l2
  have hll : (l ++ l2).length = l.length + l2.length := by simp
  by_cases hg : c < l.length + l2.length
  · have hold : (Builtin.firstCells i.size l.length (.slice p l.length c)).run P w.drew = .ok (l.flatMap f).toArray w.drew := by
      rcases hown with ⟨rfl, rfl, rfl, _⟩ | ⟨g, o, cur, rfl, h4, h5, h6, h7, h8, _⟩
      · rfl
      · show (loadCells ⟨g, o, none⟩ (l.length * i.size)).run P w.drew = _
        rw [hsz, ← hl1]
        refine run_loadCells w.drew g o _ fun j hj => ?_
        rw [World.cell_of (w := w.drew) (show w.drew.heap[g]? = _ from h4), h8 j (by omega)]
    have hr := run_append_grow_src (P := P) (ty := ty) (w := w) t tx e i z ht hi hz p l.length c (l.flatMap f) hold x l2.length (l2.flatMap f) (by rw [hsz]; exact hs) hg hsmall (growslice_fits hg hbytes)
    have hge := grownCap_ge w (l.length + l2.length) c e
    have hcm : grownCap w (l.length + l2.length) c e ≤ maxLen := grownCap_le_maxLen w (l.length + l2.length) c e h63
    rw [← hll] at hr hge hcm
    refine ⟨_, _, _, fun k => k = w.heap.size, hr, .inr ⟨w.heap.size, 0, _, rfl, heap_alloc_new w.drew _, hge, hcm, ?_, fun j hj => ?_, fun _ => Iff.rfl⟩, rfl, rfl, rfl, by simp, fun k hk _ => heap_alloc_old w.drew _ hk, fun k hk => .inr (by omega)⟩
    · simp only [Array.size_append, List.size_toArray, size_zeroCells, hzs, List.length_append, hl1, hl2, ← Nat.add_mul]
      rw [List.length_append] at hge
      rw [Nat.add_sub_cancel' hge, Nat.zero_add]
      exact Nat.le_refl _
    · rw [Nat.zero_add, List.flatMap_append, Array.getElem?_append_left (by
        rw [hll, Nat.add_mul] at hj
        simp only [List.size_toArray, List.length_append, hl1, hl2]; omega)]
      simp
  · have hroom : l.length + l2.length ≤ c := by omega
    rcases hown with ⟨rfl, rfl, rfl, hno⟩ | ⟨g, o, cur, rfl, h4, h5, h6, h7, h8, hgs⟩
    · have : l2 = [] := List.eq_nil_of_length_eq_zero (by simp only [List.length_nil] at hroom; omega)
      subst this
      refine ⟨none, 0, w, s, ?_, .inl ⟨rfl, rfl, rfl, hno⟩, rfl, rfl, rfl, Nat.le_refl _, fun _ _ _ => rfl, fun k hk => .inl hk⟩
      have hc := hs.cells
      have hln := hs.len
      simp only [List.length_nil, List.flatMap_nil] at hc hln
      rw [← hsz] at hc
      rcases hs.kind with ⟨e', hk⟩ | hk <;>
        simp [Builtin.append_, run_underlying ht, run_underlying hk, sizeOf, typeInfo, hi, hln, hc]
    · have hmul : (l.length + l2.length) * sz ≤ c * sz := Nat.mul_le_mul_right _ hroom
      rw [Nat.add_mul] at hmul
      have hfit : o + l.length * sz + (l2.flatMap f).length ≤ cur.size := by rw [hl2]; omega
      have hst := run_storeCells_at P g (o + l.length * sz) e (l2.flatMap f) 0 cur w h4 (by simpa using hfit) hs.one
      simp only [Nat.add_zero] at hst
      have hc := hs.cells
      have hln := hs.len
      rw [← hsz] at hst hc
      have hr : (Builtin.append_ #[t, tx] ty #[.slice (some ⟨g, o, none⟩) l.length c, x]).run P w = .ok (.slice (some ⟨g, o, none⟩) (l.length + l2.length) c) (w.setRow g (cur.toList.take (o + l.length * i.size) ++ l2.flatMap f ++ cur.toList.drop (o + l.length * i.size + (l2.flatMap f).length)).toArray) := by
        rcases hs.kind with ⟨e', hk⟩ | hk <;>
          simp [Builtin.append_, run_underlying ht, run_underlying hk, sizeOf, typeInfo, hi, hln, hc, hroom, Addr.add_eq, hst]
      rw [hsz, ← hll] at hr
      refine ⟨_, _, _, s, hr, .inr ⟨g, o, _, rfl, setRow_heap w g cur _ e _ h4, by rw [hll]; exact hroom, h6, ?_, fun j hj => ?_, hgs⟩, rfl, rfl, rfl, by simp, fun k _ hk => setRow_other w g k _ (fun e => hk ((hgs k).2 e)), fun k hk => .inl hk⟩
      · simp only [List.size_toArray, List.length_append, List.length_take, List.length_drop, Array.length_toList]
        omega
      · rw [hll, Nat.add_mul] at hj
        rw [List.getElem?_toArray, List.flatMap_append]
        have htk : (cur.toList.take (o + l.length * sz)).length = o + l.length * sz := by simp; omega
        by_cases hjl : j < l.length * sz
        · rw [List.getElem?_append_left (by rw [List.length_append, htk]; omega), List.getElem?_append_left (by rw [htk]; omega), List.getElem?_append_left (by rw [hl1]; omega), List.getElem?_take, if_pos (by omega), Array.getElem?_toList]
          exact h8 j hjl
        · rw [List.getElem?_append_left (by rw [List.length_append, htk, hl2]; omega), List.getElem?_append_right (by rw [htk]; omega), List.getElem?_append_right (by rw [hl1]; omega), htk, hl1]
          congr 1
          omega

def elemB (P : Program) (e : TypeId) (sz : Nat) : Bool := match P.info? e with
  | some i => match i.zero with
    | some z => Nat.beq i.size sz && Nat.beq z.cells.size sz && Nat.ble i.bytes 4096
    | none => false
  | none => false
theorem elemB_spec {e : TypeId} {sz : Nat} (h : elemB P e sz = true) : ∃ i z, P.info? e = some i ∧ i.zero = some z ∧ i.size = sz ∧ i.bytes ≤ 4096 ∧ z.cells.size = sz := by
  unfold elemB at h
  cases hi : P.info? e with
  | none => rw [hi] at h; cases h
  | some i =>
    rw [hi] at h
    simp only at h
    cases hz : i.zero with
    | none => rw [hz] at h; simp at h
    | some z =>
      rw [hz] at h
      simp only [Bool.and_eq_true] at h
      exact ⟨i, z, rfl, hz, Nat.eq_of_beq_eq_true h.1.1, Nat.le_of_ble_eq_true h.2, Nat.eq_of_beq_eq_true h.1.2⟩

/-- one resource turns, where the run says so -/
theorem HW.turn {w : World} (h : HW w0 m Rs w) {R R' : Res} {Rs' : List Res} (hp : Pick Rs R Rs') {w' : World}
    (hrun : ∀ s, R.p w s → ∃ s', R'.p w' s' ∧ w'.os = w.os ∧ w'.tape = w.tape ∧ w'.output = w.output ∧ w.heap.size ≤ w'.heap.size ∧ (∀ k, k < w.heap.size → ¬ s k → w'.heap[k]? = w.heap[k]?) ∧ (∀ k, s' k → s k ∨ w.heap.size ≤ k)) : HW w0 m (R' :: Rs') w' := by
  obtain ⟨s, ⟨s1, s2, g1, g2, hdj, hse⟩, hm⟩ := (h.ent (Ent.of_pick hp)).res
  obtain ⟨s', h2, ho, ht, hou, hsz, hold, h4⟩ := hrun s1 g1
  refine ⟨ho.trans h.os, ht.trans h.tape, hou.trans h.output, Nat.le_trans h.size hsz, fun k o hk => ?_,
    fun k => s' k ∨ s2 k, ⟨_, s2, h2, ?_, ?_, fun _ => Iff.rfl⟩, ?_⟩
  · have hk' := h.mem k o hk
    rw [hold k (Array.getElem?_eq_some_iff.1 hk').1 (fun e => by have := hm k ((hse k).2 (.inl e)); rw [this] at hk; cases hk)]
    exact hk'
  · exact Sat.loc g2 fun k hk => hold k (Sat.dom g2 hk) (fun e => hdj k ⟨e, hk⟩)
  · rintro k ⟨e1, e2⟩
    rcases h4 k e1 with e3 | e3
    · exact hdj k ⟨e3, e2⟩
    · have := Sat.dom g2 e2; omega
  · rintro k (e1 | e1)
    · rcases h4 k e1 with e3 | e3
      · exact hm k ((hse k).2 (.inl e3))
      · cases hk : m k with
        | none => rfl
        | some o => have := (Array.getElem?_eq_some_iff.1 (h.mem k o hk)).1; omega
    · exact hm k ((hse k).2 (.inr e1))

theorem At.append {ops : Array Oper} {rest : List Oper} {d : Nat} {x y : Operand} {t tx : TypeId} {ty : TypeId} {pos : String} {aft : Array Edge} {E : TypeId} {p : Option Addr} {c : Nat} {l l2 : List α} {Rs' : List Res} {xv : Value} {ln : Nat}
    (hf : Fl f sz) (hp : Pick Rs (.own f sz E p c l) Rs') (ht : P.underlying t = some (.slice E)) (he : elemB P E sz = true)
    (hx : ev F x = some (.slice p ln c)) (hln : ln = l.length) (hy : ev F y = some xv) (hsrc : ∀ w, HW w0 m Rs w → Src P sz tx xv l2.length (l2.flatMap f) w)
    (hsm : l.length + l2.length ≤ 34359738368) (hd : Nat.blt d n = true)
    (h : ∀ p' c', At n w0 ((d, .slice p' (l ++ l2).length c') :: F) m (.own f sz E p' c' (l ++ l2) :: Rs') (wpList P ops Q rest)) :
    At n w0 F m Rs (wpList P ops Q (⟨some d, .call ⟨.builtin .append, #[x, y], #[t, tx]⟩, ty, pos, aft, none⟩ :: rest)) := fun a w ha hw =>
  wpList_plain rfl fun K hK => by
    subst hln
    obtain ⟨i, z, hi, hz, hsz, hbt, hzs⟩ := elemB_spec he
    have hby : (l.length + l2.length) * i.bytes ≤ 140737488355328 := Nat.le_trans (Nat.mul_le_mul hsm hbt) (by omega)
    have hsm : l.length + l2.length ≤ maxLen := by simp only [maxLen]; omega
    have hsr := hsrc w hw
    obtain ⟨s0, hown⟩ := hw.get hp
    obtain ⟨p', c', w', _, hr, _⟩ := run_append_own (P := P) (ty := ty) hf ht hi hz hsz hzs hown hsr hsm hby
    unfold Oper.wp
    have hrun : (execOp a.eval ⟨some d, .call ⟨.builtin .append, #[x, y], #[t, tx]⟩, ty, pos, aft, none⟩).run P w = .ok (.value (.slice p' (l ++ l2).length c')) w' := by
      rw [BigFrame.execOp_builtin]
      simp [BigFrame.builtin_append, ha.ev hx, ha.ev hy, hr]
    rw [hrun]
    refine hK _ _ (h p' c' _ w' (ha.put hd) (hw.turn hp fun s hs => ?_))
    obtain ⟨p2, c2, w2, s2, hr2, h2⟩ := run_append_own (P := P) (ty := ty) hf ht hi hz hsz hzs hs hsr hsm hby
    rw [hr] at hr2
    injection hr2 with e1 e2
    injection e1 with e1 _ e3
    subst e1 e3 e2
    exact ⟨s2, h2⟩

/-! ### a store into what one owns -/
theorem putl_get : ∀ (cs : List Value) (o : Nat) (vs r : List Value), putl cs o vs = some r → o + vs.length ≤ cs.length ∧ r.length = cs.length ∧ ∀ b, r[b]? = if o ≤ b ∧ b < o + vs.length then vs[b - o]? else cs[b]?
  | cs, 0, [], r, h => by
    have : r = cs := by cases cs <;> simp [putl] at h <;> first | exact h | exact h.symm
    subst this
    exact ⟨by simp, rfl, fun b => by rw [if_neg (by simp)]⟩
  | [], 0, _ :: _, _, h => by simp [putl] at h
  | c :: cs, 0, v :: vs, r, h => by
    simp only [putl] at h
    cases hh : putl cs 0 vs with
    | none => rw [hh] at h; cases h
    | some r' =>
      rw [hh] at h; cases h
      obtain ⟨h1, h2, h3⟩ := putl_get cs 0 vs r' hh
      refine ⟨by simp; omega, by simp [h2], fun b => ?_⟩
      cases b with
      | zero => simp
      | succ b =>
        have := h3 b
        simp only [Nat.zero_le, Nat.zero_add, true_and, Nat.sub_zero] at this
        simp only [List.getElem?_cons_succ, this, List.length_cons, Nat.zero_le, true_and, Nat.zero_add, Nat.sub_zero, Nat.add_lt_add_iff_right]
  | [], _ + 1, _, _, h => by simp [putl] at h
  | c :: cs, o + 1, vs, r, h => by
    simp only [putl] at h
    cases hh : putl cs o vs with
    | none => rw [hh] at h; cases h
    | some r' =>
      rw [hh] at h; cases h
      obtain ⟨h1, h2, h3⟩ := putl_get cs o vs r' hh
      refine ⟨by simp; omega, by simp [h2], fun b => ?_⟩
      cases b with
      | zero => simp
      | succ b =>
        simp only [List.getElem?_cons_succ, h3 b]
        by_cases hc : o ≤ b ∧ b < o + vs.length
        · rw [if_pos hc, if_pos (by omega)]; congr 1; omega
        · rw [if_neg hc, if_neg (by omega)]

theorem At.store_own {ops : Array Oper} {rest : List Oper} {t : TypeId} {x y : Operand} {ty : TypeId} {pos : String} {aft : Array Edge} {E : TypeId} {p : Option Addr} {c : Nat} {l : List α} {Rs' : List Res} {k j q : Nat} {v : Value} {vs : List Value}
    (x' : α) (hf : Fl f sz) (hp : Pick Rs (.own f sz E p c l) Rs') (hk : k < l.length)
    (hx : ev F x = some (.pointer (some (at_ p (k * sz + j))))) (hy : ev F y = some v) (hv : cellsB v = some vs) (hs : sizeB P t = some q) (hq : vs.length = q) (h1 : vs.all oneCell = true)
    (hr : putl (f l[k]!) j vs = some (f x'))
    (h : At n w0 F m (.own f sz E p c (l.set k x') :: Rs') (wpList P ops Q rest)) : At n w0 F m Rs (wpList P ops Q (⟨none, .store t x y, ty, pos, aft, none⟩ :: rest)) := fun a w ha hw =>
  wpList_plain rfl fun K hK => by
    have hvc : v.cells.toList = vs := by rw [cellsB_eq hv]
    have hone : ∀ u ∈ vs, u.oneCell' = true := fun u hu => by
      have := List.all_eq_true.1 h1 u hu
      cases u <;> first | rfl | (simp [oneCell] at this)
    obtain ⟨p1, p2, p3⟩ := putl_get _ _ _ _ hr
    rw [hf.len] at p1
    have hrow : ∀ s, (Res.own f sz E p c l).p w s → ∃ w', (storeVar t (at_ p (k * sz + j)) v).run P w = .ok () w' ∧ (Res.own f sz E p c (l.set k x')).p w' s ∧ w'.os = w.os ∧ w'.tape = w.tape ∧ w'.output = w.output ∧ w.heap.size ≤ w'.heap.size ∧ (∀ k, k < w.heap.size → ¬ s k → w'.heap[k]? = w.heap[k]?) := fun s hown => by
      rcases hown with ⟨rfl, rfl, rfl, hno⟩ | ⟨g, o, cur, rfl, h4, h5, h6, h7, h8, hgs⟩
      · simp at hk
      · have hks : (k + 1) * sz ≤ l.length * sz := Nat.mul_le_mul_right _ hk
        have hcs : l.length * sz ≤ c * sz := Nat.mul_le_mul_right _ h5
        rw [Nat.add_mul] at hks
        have hst := run_storeCells_at P g (o + (k * sz + j)) E vs 0 cur w h4 (by omega) hone
        simp only [Nat.add_zero] at hst
        refine ⟨w.setRow g (cur.toList.take (o + (k * sz + j)) ++ vs ++ cur.toList.drop (o + (k * sz + j) + vs.length)).toArray, ?_, .inr ⟨g, o, (cur.toList.take (o + (k * sz + j)) ++ vs ++ cur.toList.drop (o + (k * sz + j) + vs.length)).toArray, rfl, setRow_heap w g cur _ E _ h4, by simpa using h5, h6, ?_, fun i hi => ?_, hgs⟩, rfl, rfl, rfl, by simp, fun i _ hi => setRow_other w g i _ (fun e => hi ((hgs i).2 e))⟩
        · simp only [storeVar, Sem.run_bind, run_sizeOf hs, Result.andThen]
          have : v.cells.size = q := by rw [← hq, ← hvc]; simp
          simp only [this, ne_eq, not_true, if_false]
          rw [hvc]
          exact hst
        · simp only [List.size_toArray, List.length_append, List.length_take, List.length_drop, Array.length_toList]
          omega
        · rw [List.length_set] at hi
          have hpos := hf.pos
          have hdv : i / sz < l.length := Nat.div_lt_of_lt_mul (by rw [Nat.mul_comm]; exact hi)
          have hmd : i % sz < sz := Nat.mod_lt _ hpos
          have ei : i = i / sz * sz + i % sz := by rw [Nat.mul_comm]; exact (Nat.div_add_mod i sz).symm
          have h8' := h8 i hi
          generalize i / sz = a1 at *
          generalize i % sz = b1 at *
          subst ei
          rw [flatMap_get hf.len l a1 b1 hdv hmd] at h8'
          rw [flatMap_get hf.len _ a1 b1 (by simpa using hdv) hmd, List.getElem?_toArray]
          have htk : (cur.toList.take (o + (k * sz + j))).length = o + (k * sz + j) := by simp; omega
          have hin : ∀ i1, (cur.toList.take (o + (k * sz + j)) ++ vs ++ cur.toList.drop (o + (k * sz + j) + vs.length))[i1]? = if o + (k * sz + j) ≤ i1 ∧ i1 < o + (k * sz + j) + vs.length then vs[i1 - (o + (k * sz + j))]? else cur[i1]? := fun i1 => by
            by_cases c1 : i1 < o + (k * sz + j)
            · rw [if_neg (by omega), List.getElem?_append_left (by rw [List.length_append, htk]; omega), List.getElem?_append_left (by rw [htk]; exact c1), List.getElem?_take, if_pos c1, Array.getElem?_toList]
            · by_cases c2 : i1 < o + (k * sz + j) + vs.length
              · rw [if_pos ⟨by omega, c2⟩, List.getElem?_append_left (by rw [List.length_append, htk]; omega), List.getElem?_append_right (by rw [htk]; omega), htk]
              · rw [if_neg (by omega), List.getElem?_append_right (by rw [List.length_append, htk]; omega), List.length_append, htk, List.getElem?_drop, Array.getElem?_toList]
                congr 1; omega
          rw [hin]
          by_cases e : a1 = k
          · subst e
            have : (l.set a1 x')[a1]! = x' := by
              rw [List.getElem!_eq_getElem?_getD, List.getElem?_set_self hdv]; rfl
            rw [this, p3 b1]
            by_cases c1 : j ≤ b1 ∧ b1 < j + vs.length
            · rw [if_pos c1, if_pos (by omega)]; congr 1; omega
            · rw [if_neg c1, if_neg (by omega)]; exact h8'
          · have : (l.set k x')[a1]! = l[a1]! := by
              rw [List.getElem!_eq_getElem?_getD, List.getElem!_eq_getElem?_getD, List.getElem?_set_ne (Ne.symm e)]
            rw [this, ← h8', if_neg]
            rcases Nat.lt_or_gt_of_ne e with e | e
            · have : (a1 + 1) * sz ≤ k * sz := Nat.mul_le_mul_right _ e
              rw [Nat.add_mul] at this; omega
            · have : (k + 1) * sz ≤ a1 * sz := Nat.mul_le_mul_right _ e
              rw [Nat.add_mul] at this; omega
    obtain ⟨s0, hown⟩ := hw.get hp
    obtain ⟨w', hr', _⟩ := hrow s0 hown
    have hrun' : (execOp a.eval ⟨none, .store t x y, ty, pos, aft, none⟩).run P w = .ok .skip w' := by
      have e0 : (Pure.pure (at_ p (k * sz + j)) : Sem Addr).run P w = .ok (at_ p (k * sz + j)) w := rfl
      simp only [execOp, ha.ev hx, ha.ev hy, Instr.storeAt, Instr.sureAddr, Sem.run_bind, e0, Result.andThen, hr']
      rfl
    unfold Oper.wp
    rw [hrun']
    refine hK _ _ (h _ _ ha (hw.turn hp fun s hs => ?_))
    obtain ⟨w2, hr2, h2, g1, g2, g3, g4, g5⟩ := hrow s hs
    rw [hr'] at hr2
    injection hr2 with _ e2
    subst e2
    exact ⟨s, h2, g1, g2, g3, g4, g5, fun k hk => .inl hk⟩

theorem At.store_own0 {ops : Array Oper} {rest : List Oper} {t : TypeId} {x y : Operand} {ty : TypeId} {pos : String} {aft : Array Edge} {E : TypeId} {p : Option Addr} {c : Nat} {l : List α} {Rs' : List Res} {k q : Nat} {v : Value} {vs : List Value}
    (x' : α) (hf : Fl f sz) (hp : Pick Rs (.own f sz E p c l) Rs') (hk : k < l.length)
    (hx : ev F x = some (.pointer (some (at_ p (k * sz))))) (hy : ev F y = some v) (hv : cellsB v = some vs) (hs : sizeB P t = some q) (hq : vs.length = q) (h1 : vs.all oneCell = true)
    (hr : putl (f l[k]!) 0 vs = some (f x'))
    (h : At n w0 F m (.own f sz E p c (l.set k x') :: Rs') (wpList P ops Q rest)) : At n w0 F m Rs (wpList P ops Q (⟨none, .store t x y, ty, pos, aft, none⟩ :: rest)) :=
  At.store_own (j := 0) x' hf hp hk hx hy hv hs hq h1 hr h

/-! ### the same, the operands first, for a walk -/
variable {E : TypeId} {p : Option Addr} {c : Nat} {l : List α} {Rs' : List Res}
theorem pr_index_own {x y : Operand} {t : TypeId} {ln k : Nat} {ki : IntKind} (hx : ev F x = some (.slice p ln c)) (hy : ev F y = some (.int ki (k : Int))) (hp : Pick Rs (.own f sz E p c l) Rs') (hf : Fl f sz)
    (ht : P.underlying t = some (.slice E)) (hs : sizeB P E = some sz) (hl : ln = l.length) (hk : k < l.length) : PR P n F (HW w0 m Rs) (.indexAddr t x y) (.pointer (some (at_ p (k * sz)))) :=
  pr_indexAddr (own_rdb hf hp) ht hs hx hy hl hk
theorem pr_load_own1 {x : Operand} {t : TypeId} {k : Nat} {v : Value} (hx : ev F x = some (.pointer (some (at_ p (k * sz))))) (hp : Pick Rs (.own f sz E p c l) Rs') (hf : Fl f sz) (hk : k < l.length) (ht : isAggB P t = some false)
    (hv : flat (f l[k]!) = some [v]) : PR P n F (HW w0 m Rs) (.load t x) v := pr_load_sl1 (own_rdb hf hp) hk ht hx hv
theorem pr_load_ownN {x : Operand} {t : TypeId} {k : Nat} {vs : List Value} (hx : ev F x = some (.pointer (some (at_ p (k * sz))))) (hp : Pick Rs (.own f sz E p c l) Rs') (hf : Fl f sz) (hk : k < l.length) (ht : isAggB P t = some true) (hs : sizeB P t = some sz)
    (hv : flat (f l[k]!) = some vs) : PR P n F (HW w0 m Rs) (.load t x) (.agg vs.toArray) := pr_load_slN (own_rdb hf hp) hk ht hs hx hv
theorem pr_load_ownf {x : Operand} {t : TypeId} {k j : Nat} {v : Value} (hx : ev F x = some (.pointer (some (at_ p (k * sz + j))))) (hp : Pick Rs (.own f sz E p c l) Rs') (hf : Fl f sz) (hk : k < l.length) (hj : Nat.blt j sz = true) (ht : isAggB P t = some false)
    (hv : nthl (f l[k]!) j = some v) : PR P n F (HW w0 m Rs) (.load t x) v := pr_load_slf (own_rdb hf hp) hk hj ht hx hv
theorem pr_index_mem {x y : Operand} {t E : TypeId} {ln k : Nat} {ki : IntKind} (hx : ev F x = some (.slice p ln c)) (hy : ev F y = some (.int ki (k : Int))) (h : Sl m f sz p c l)
    (ht : P.underlying t = some (.slice E)) (hs : sizeB P E = some sz) (hl : ln = l.length) (hk : k < l.length) : PR P n F (HW w0 m Rs) (.indexAddr t x y) (.pointer (some (at_ p (k * sz)))) :=
  pr_indexAddr h.rdb ht hs hx hy hl hk
theorem pr_load_meme1 {x : Operand} {t : TypeId} {k : Nat} {v : Value} (hx : ev F x = some (.pointer (some (at_ p (k * sz))))) (h : Sl m f sz p c l) (hk : k < l.length) (ht : isAggB P t = some false)
    (hv : flat (f l[k]!) = some [v]) : PR P n F (HW w0 m Rs) (.load t x) v := pr_load_sl1 h.rdb hk ht hx hv
theorem pr_load_memeN {x : Operand} {t : TypeId} {k : Nat} {vs : List Value} (hx : ev F x = some (.pointer (some (at_ p (k * sz))))) (h : Sl m f sz p c l) (hk : k < l.length) (ht : isAggB P t = some true) (hs : sizeB P t = some sz)
    (hv : flat (f l[k]!) = some vs) : PR P n F (HW w0 m Rs) (.load t x) (.agg vs.toArray) := pr_load_slN h.rdb hk ht hs hx hv
theorem pr_load_memef {x : Operand} {t : TypeId} {k j : Nat} {v : Value} (hx : ev F x = some (.pointer (some (at_ p (k * sz + j))))) (h : Sl m f sz p c l) (hk : k < l.length) (hj : Nat.blt j sz = true) (ht : isAggB P t = some false)
    (hv : nthl (f l[k]!) j = some v) : PR P n F (HW w0 m Rs) (.load t x) v := pr_load_slf h.rdb hk hj ht hx hv
theorem pr_slice_l {x y : Operand} {t E : TypeId} {ln lo sz : Nat} {k : IntKind} (hx : ev F x = some (.slice p ln c)) (hy : ev F y = some (.int k (lo : Int))) (ht : P.underlying t = some (.slice E)) (hs : sizeB P E = some sz) (h1 : lo ≤ ln) (h2 : ln ≤ c) :
    PR P n F C (.slice t x (some y) none none) (.slice (subp p c lo sz) (ln - lo) (c - lo)) := pr_slice lo ln (some y) none ht hs hx (.inr ⟨y, k, rfl, hy⟩) (.inl ⟨rfl, rfl⟩) h1 h2
theorem pr_slice_h {x z : Operand} {t E : TypeId} {ln hi sz : Nat} {k : IntKind} (hx : ev F x = some (.slice p ln c)) (hz : ev F z = some (.int k (hi : Int))) (ht : P.underlying t = some (.slice E)) (hs : sizeB P E = some sz) (h2 : hi ≤ c) :
    PR P n F C (.slice t x none (some z) none) (.slice (subp p c 0 sz) (hi - 0) (c - 0)) := pr_slice 0 hi none (some z) ht hs hx (.inl ⟨rfl, rfl⟩) (.inr ⟨z, k, rfl, hz⟩) (Nat.zero_le _) h2
theorem pr_slice_lh {x y z : Operand} {t E : TypeId} {ln lo hi sz : Nat} {k k' : IntKind} (hx : ev F x = some (.slice p ln c)) (hy : ev F y = some (.int k (lo : Int))) (hz : ev F z = some (.int k' (hi : Int))) (ht : P.underlying t = some (.slice E)) (hs : sizeB P E = some sz) (h1 : lo ≤ hi) (h2 : hi ≤ c) :
    PR P n F C (.slice t x (some y) (some z) none) (.slice (subp p c lo sz) (hi - lo) (c - lo)) := pr_slice lo hi (some y) (some z) ht hs hx (.inr ⟨y, k, rfl, hy⟩) (.inr ⟨z, k', rfl, hz⟩) h1 h2

theorem At.append_rdb {ops : Array Oper} {rest : List Oper} {d : Nat} {x y : Operand} {t tx e2 : TypeId} {ty : TypeId} {pos : String} {aft : Array Edge} {ln : Nat} {p2 : Option Addr} {ln2 c2 : Nat} {l2 : List α}
    (hx : ev F x = some (.slice p ln c)) (hy : ev F y = some (.slice p2 ln2 c2)) (hp : Pick Rs (.own f sz E p c l) Rs') (hf : Fl f sz) (h2 : Rdb (HW w0 m Rs) f sz p2 c2 l2) (hl2 : ln2 = l2.length) (ht : P.underlying t = some (.slice E)) (ht2 : P.underlying tx = some (.slice e2)) (he : elemB P E sz = true)
    (hln : ln = l.length) (hsm : l.length + l2.length ≤ 34359738368) (hd : Nat.blt d n = true)
    (h : ∀ p' c', At n w0 ((d, .slice p' (l ++ l2).length c') :: F) m (.own f sz E p' c' (l ++ l2) :: Rs') (wpList P ops Q rest)) :
    At n w0 F m Rs (wpList P ops Q (⟨some d, .call ⟨.builtin .append, #[x, y], #[t, tx]⟩, ty, pos, aft, none⟩ :: rest)) :=
  At.append hf hp ht he hx hln hy (fun w hw => by subst hl2; exact rdb_src h2 hw ht2) hsm hd h

/-! ### a slice that is written out, and one that is made -/
theorem At.make {ops : Array Oper} {rest : List Oper} {d : Nat} {x y : Operand} {t E : TypeId} {ty : TypeId} {pos : String} {aft : Array Edge} {k1 k2 : IntKind} {cp : Nat} {q : Int}
    (f : α → List Value) (hf : Fl f sz) (ht : P.underlying t = some (.slice E)) (he : elemB P E sz = true) (hx : ev F x = some (.int k1 0)) (hy : ev F y = some (.int k2 q)) (hq : q = (cp : Int)) (hsm : cp ≤ 34359738368) (hd : Nat.blt d n = true)
    (h : ∀ b, At n w0 ((d, .slice (some ⟨b, 0, none⟩) 0 cp) :: F) m (.own f sz E (some ⟨b, 0, none⟩) cp ([] : List α) :: Rs) (wpList P ops Q rest)) :
    At n w0 F m Rs (wpList P ops Q (⟨some d, .makeSlice t x y, ty, pos, aft, none⟩ :: rest)) := fun a w ha hw =>
  wpList_plain rfl fun K hK => by
    subst hq
    obtain ⟨i, z, hi, hz, hsz, hbt, hzs⟩ := elemB_spec he
    have hby : i.bytes * cp ≤ 281474976710656 := Nat.le_trans (Nat.mul_le_mul hbt hsm) (by omega)
    have h63 : cp ≤ maxLen := by simp only [maxLen]; omega
    obtain ⟨w', hr, h1, h2⟩ := run_make_own (P := P) w w.heap.size t E i z sz ht hi hz hsz k1 k2 cp hby h63 (Nat.le_refl _)
    unfold Oper.wp
    have hrun : (execOp a.eval ⟨some d, .makeSlice t x y, ty, pos, aft, none⟩).run P w = .ok (.value (.slice (some ⟨w.heap.size, 0, none⟩) 0 cp)) w' := by
      simp [execOp, ha.ev hx, ha.ev hy, hr]
    rw [hrun]
    refine hK _ _ (h _ _ _ (ha.put hd) (hw.add h2.os h2.tape h2.output h2.size (fun k hk => h2.block k hk (by simp)) ⟨fun k => k = w.heap.size, ?_, fun k hk => by omega⟩))
    · obtain ⟨g1, g2⟩ := h1
      rcases g2 with g2 | ⟨g, cap, cur, hv, _, h4, h5, h6, h7, _⟩
      · cases g2.1
      · injection hv with e1 e2 e3
        injection e1 with e1
        injection e1 with e1 _ _
        subst e1 e3
        exact .inr ⟨_, 0, cur, rfl, h4, Nat.zero_le _, h6, by omega, fun j hj => by simp at hj, fun _ => Iff.rfl⟩
end
section
variable {P : Program} {n : Nat} {w0 : World} {F : Fr} {m : Mem} {Rs : List Res} {Q : Exit → Act → World → Prop} {α : Type} [Inhabited α] {f : α → List Value} {sz : Nat} {E : TypeId} {p : Option Addr} {c : Nat} {l : List α} {Rs' : List Res}
theorem At.appendW {ops : Array Oper} {rest : List Oper} {d : Nat} {x y : Operand} {t tx e2 : TypeId} {ty : TypeId} {pos : String} {aft : Array Edge} {ln : Nat} {p2 : Option Addr} {ln2 c2 : Nat} {l2 : List α}
    (hx : ev F x = some (.slice p ln c)) (hy : ev F y = some (.slice p2 ln2 c2)) (hp : Pick Rs (.own f sz E p c l) Rs') (hf : Fl f sz) (h2 : Rdb (HW w0 m Rs) f sz p2 c2 l2) (hl2 : ln2 = l2.length) (ht : P.underlying t = some (.slice E)) (ht2 : P.underlying tx = some (.slice e2)) (he : elemB P E sz = true)
    (hln : ln = l.length) (hsm : l.length + l2.length ≤ 34359738368) (hd : Nat.blt d n = true)
    (h : ∀ p' c', At n w0 ((d, .slice p' (l ++ l2).length c') :: F) m (.own f sz E p' c' (l ++ l2) :: Rs') (wpList P ops Q rest)) :
    At n w0 F m Rs (wpList P ops Q (⟨some d, .call ⟨.builtin .append, #[x, y], #[t, tx]⟩, ty, pos, aft, none⟩ :: rest)) := At.append_rdb hx hy hp hf h2 hl2 ht ht2 he hln hsm hd h
theorem At.storeW {ops : Array Oper} {rest : List Oper} {t : TypeId} {x y : Operand} {ty : TypeId} {pos : String} {aft : Array Edge} {k q : Nat} {v : Value} {vs : List Value}
    (hx : ev F x = some (.pointer (some (at_ p (k * sz))))) (hy : ev F y = some v) (hv : cellsB v = some vs) (hp : Pick Rs (.own f sz E p c l) Rs') (x' : α) (hr : putl (f l[k]!) 0 vs = some (f x')) (hf : Fl f sz) (hk : k < l.length)
    (hs : sizeB P t = some q) (hq : vs.length = q) (h1 : vs.all oneCell = true)
    (h : At n w0 F m (.own f sz E p c (l.set k x') :: Rs') (wpList P ops Q rest)) : At n w0 F m Rs (wpList P ops Q (⟨none, .store t x y, ty, pos, aft, none⟩ :: rest)) :=
  At.store_own0 x' hf hp hk hx hy hv hs hq h1 hr h
theorem At.storeWf {ops : Array Oper} {rest : List Oper} {t : TypeId} {x y : Operand} {ty : TypeId} {pos : String} {aft : Array Edge} {k j q : Nat} {v : Value} {vs : List Value}
    (hx : ev F x = some (.pointer (some (at_ p (k * sz + j))))) (hy : ev F y = some v) (hv : cellsB v = some vs) (hp : Pick Rs (.own f sz E p c l) Rs') (x' : α) (hr : putl (f l[k]!) j vs = some (f x')) (hf : Fl f sz) (hk : k < l.length)
    (hs : sizeB P t = some q) (hq : vs.length = q) (h1 : vs.all oneCell = true)
    (h : At n w0 F m (.own f sz E p c (l.set k x') :: Rs') (wpList P ops Q rest)) : At n w0 F m Rs (wpList P ops Q (⟨none, .store t x y, ty, pos, aft, none⟩ :: rest)) :=
  At.store_own x' hf hp hk hx hy hv hs hq h1 hr h
theorem At.makeW {ops : Array Oper} {rest : List Oper} {d : Nat} {x y : Operand} {t : TypeId} {ty : TypeId} {pos : String} {aft : Array Edge} {k1 k2 : IntKind} {cp : Nat} {q : Int}
    (f : α → List Value) (hf : Fl f sz) (ht : P.underlying t = some (.slice E)) (he : elemB P E sz = true) (hx : ev F x = some (.int k1 0)) (hy : ev F y = some (.int k2 q)) (hq : q = (cp : Int)) (hsm : cp ≤ 34359738368) (hd : Nat.blt d n = true)
    (h : ∀ b, At n w0 ((d, .slice (some ⟨b, 0, none⟩) 0 cp) :: F) m (.own f sz E (some ⟨b, 0, none⟩) cp ([] : List α) :: Rs) (wpList P ops Q rest)) :
    At n w0 F m Rs (wpList P ops Q (⟨some d, .makeSlice t x y, ty, pos, aft, none⟩ :: rest)) := At.make f hf ht he hx hy hq hsm hd h
end
end Go.J
/- Regions that draw their order: a head of operations that are quiet, then a tail that is forced. -/
set_option linter.unusedSimpArgs false
set_option linter.unusedVariables false
set_option linter.unusedSectionVars false
set_option maxRecDepth 20000
namespace Go.J
open Go

def edgesBack (l : List Oper) : Bool := l.zipIdx.all fun (o, i) => o.after.all (fun e => !Region.binds .any e || decide (e.on < i)) && (match o.guard with | some (j, _) => decide (j < i) | none => true)

/-- what is asked of a region whose first N operations are quiet, the others forced -/
def tailB (l : List Oper) (N : Nat) : Bool :=
  decide (N < l.length) && edgesBack (l.take N) && Region.lexB .any (l.take N).toArray && Region.sinkB .any l.toArray N && Region.chainB .any l.toArray N &&
  Region.seqB .any l.toArray (l.length - N) N (Array.replicate N true ++ Array.replicate (l.length - N) false)

theorem edgesBack_spec {l : List Oper} (h : edgesBack l = true) {i : Nat} {o : Oper} (ho : l[i]? = some o) : (∀ e ∈ o.after, Region.binds .any e = true → e.on < i) ∧ (∀ j b, o.guard = some (j, b) → j < i) := by
  unfold edgesBack at h
  have hm : (o, i) ∈ l.zipIdx := by
    rw [List.mem_zipIdx_iff_getElem?]; exact ho
  have := List.all_eq_true.1 h _ hm
  simp only [Bool.and_eq_true] at this
  refine ⟨fun e he hb => ?_, fun j b hg => ?_⟩
  · have h1 := Array.all_eq_true_iff_forall_mem.1 this.1 e he
    simpa [hb] using h1
  · have h2 := this.2
    rw [hg] at h2
    simpa using h2

section
variable {P : Program} {n : Nat} {w0 : World} {F : Fr} {m : Mem} {Rs : List Res} {Q : Exit → Act → World → Prop} {C : World → Prop}

theorem getD_app (lh : Array Bool) (g i : Nat) (b : Bool) (hi : i < lh.size) : (lh ++ Array.replicate g false).getD i b = lh.getD i b := by
  simp [Array.getElem?_append_left hi]

/-- the head's part: whatever order it comes in -/
theorem head_any {l : List Oper} {N g : Nat} {T : Act → Prop} (hN : N < l.length) (hg : g = l.length - N) (hE : edgesBack (l.take N) = true) (hs : Region.sinkB .any l.toArray N = true) (hc : Region.chainB .any l.toArray N = true)
    (hT : ∀ a w, C w → T a → wpAny P .any l.toArray Q g (Array.replicate N true ++ Array.replicate g false) a w) :
    ∀ (f : Nat) (lh : Array Bool) (a : Act) (w : World), lh.size = N → lh.toList.count false = f → HeadInv .any l.toArray N (lh ++ Array.replicate g false) → C w → wpAnyQ P .any (l.take N).toArray C T f lh a →
      wpAny P .any l.toArray Q (f + g) (lh ++ Array.replicate g false) a w := by
  have hget : ∀ i, i < N → (l.take N).toArray[i]? = l.toArray[i]? := fun i hi => by simp [List.getElem?_take, hi]
  intro f
  induction f with
  | zero =>
    intro lh a w hsz hcnt _ hw h
    have hall : lh = Array.replicate N true := by
      apply Array.ext (by simp [hsz])
      intro i h1 h2
      have := List.count_eq_zero.1 hcnt
      simp only [Array.getElem_replicate]
      cases hb : lh[i] with
      | true => rfl
      | false => exact absurd (by rw [← hb]; simp) this
    rw [Nat.zero_add, hall]
    exact hT a w hw h.2
  | succ f ih =>
    intro lh a w hsz hcnt inv hw h
    -- the least one that has not come up
    have hex : ∃ i, i < N ∧ lh.getD i true = false := by
      have : false ∈ lh.toList := by
        apply Classical.byContradiction; intro hn
        rw [List.count_eq_zero.2 hn] at hcnt; omega
      obtain ⟨i, hi, he⟩ := List.getElem_of_mem this
      simp only [Array.length_toList] at hi
      refine ⟨i, by omega, ?_⟩
      simp only [Array.getElem_toList] at he
      simp [hi, he]
    have hmin : ∃ i, (i < N ∧ lh.getD i true = false) ∧ ∀ j, j < i → ¬ (j < N ∧ lh.getD j true = false) := by
      have key : ∀ k, (∃ i, i ≤ k ∧ i < N ∧ lh.getD i true = false) → ∃ i, (i < N ∧ lh.getD i true = false) ∧ ∀ j, j < i → ¬ (j < N ∧ lh.getD j true = false) := by
        intro k
        induction k with
        | zero => rintro ⟨i, h1, h2⟩; exact ⟨i, h2, fun j hj => by omega⟩
        | succ k ihk =>
          rintro ⟨i, h1, h2⟩
          by_cases hb : ∃ i, i ≤ k ∧ i < N ∧ lh.getD i true = false
          · exact ihk hb
          · exact ⟨i, h2, fun j hj hj' => hb ⟨j, by omega, hj'⟩⟩
      obtain ⟨i, h1⟩ := hex
      exact key i ⟨i, Nat.le_refl _, h1⟩
    obtain ⟨i0, ⟨hi0, hun0⟩, hleast⟩ := hmin
    have hlt : ∀ t, N ≤ t → t ∉ Region.ready .any l.toArray (lh ++ Array.replicate g false) :=
      tail_waits hs hc (by simpa using hN) inv _ i0 rfl hi0 (by rw [getD_app _ _ _ _ (by omega)]; exact hun0)
    -- what may come up is the head's
    have hready : ∀ i, i < N → (i ∈ Region.ready .any l.toArray (lh ++ Array.replicate g false) ↔ i ∈ Region.ready .any (l.take N).toArray lh) := fun i hi => by
      rw [mem_ready, mem_ready, getD_app _ _ _ _ (by omega), hget i hi]
      constructor
      · rintro ⟨h1, o, ho, h2⟩
        have ho' : (l.take N)[i]? = some o := by rw [← ho]; simp [List.getElem?_take, hi]
        refine ⟨h1, o, ho, fun e he hb => ?_⟩
        have := (edgesBack_spec hE ho').1 e he hb
        have h3 := h2 e he hb
        rwa [getD_app _ _ _ _ (by omega)] at h3
      · rintro ⟨h1, o, ho, h2⟩
        have ho' : (l.take N)[i]? = some o := by rw [← ho]; simp [List.getElem?_take, hi]
        refine ⟨h1, o, ho, fun e he hb => ?_⟩
        have := (edgesBack_spec hE ho').1 e he hb
        rw [getD_app _ _ _ _ (by omega)]
        exact h2 e he hb
    rw [show f + 1 + g = (f + g) + 1 by omega]
    refine ⟨fun h0 => ?_, fun i hi => ?_⟩
    · exfalso
      have hol : i0 < l.length := by omega
      have ho' : (l.take N)[i0]? = some l[i0] := by simp [hi0, hol]
      have : i0 ∈ Region.ready .any l.toArray (lh ++ Array.replicate g false) := by
        rw [hready i0 hi0, mem_ready]
        refine ⟨hun0, l[i0], by simpa using ho', fun e he hb => ?_⟩
        have hb' := (edgesBack_spec hE ho').1 e he hb
        have hl := hleast e.on hb'
        cases hc' : lh.getD e.on true with
        | false => exact absurd ⟨by omega, hc'⟩ hl
        | true =>
          have : e.on < lh.size := by omega
          simp [this] at hc' ⊢; exact hc'
      rw [h0] at this; cases this
    · have hiN : i < N := Nat.lt_of_not_le fun hle => hlt i hle hi
      have hir := (hready i hiN).1 hi
      have hq := h.2 i hir
      have hun := (mem_ready.1 hir).1
      have hset : (lh ++ Array.replicate g false).setIfInBounds i true = lh.setIfInBounds i true ++ Array.replicate g false := by
        rw [Array.setIfInBounds_append]
        simp [show i < lh.size by omega]
      rw [hset]
      have hcnt' : (lh.setIfInBounds i true).toList.count false = f := by
        have hi' : i < lh.size := by omega
        have : lh[i] = false := by simpa [hi'] using hun
        rw [Array.toList_setIfInBounds]
        have h1 := List.count_set (a := true) (b := false) (l := lh.toList) (i := i) (by simpa using hi')
        rw [h1]
        simp [this, hcnt]
      have inv' : HeadInv .any l.toArray N (lh.setIfInBounds i true ++ Array.replicate g false) := by
        rw [← hset]; exact inv.set hi hiN
      -- the step itself
      unfold qOp at hq
      unfold wpOp
      rw [hget i hiN] at hq
      have hio : i < l.length := by omega
      have ho : l.toArray[i]? = some l[i] := by simp [hio]
      rw [ho] at hq ⊢
      simp only at hq ⊢
      have hwant : Region.wanted l[i] (yielded (l.take N).toArray a.tmps) = Region.wanted l[i] (yielded l.toArray a.tmps) := by
        unfold Region.wanted
        cases hgd : l[i].guard with
        | none => rfl
        | some jb =>
          obtain ⟨j, b⟩ := jb
          have := (edgesBack_spec hE (show (l.take N)[i]? = some l[i] by simp [hiN, hio])).2 j b hgd
          simp only [yielded, hget j (by omega)]
      rw [hwant] at hq
      by_cases hw' : Region.wanted l[i] (yielded l.toArray a.tmps) = true
      · simp only [hw', if_true] at hq ⊢
        exact .inl (Oper.wp_of_quiet hw (fun a' w' hw' h' => ih _ a' w' (by simp [hsz]) hcnt' inv' hw' h') hq)
      · simp only [hw', if_false, Bool.false_eq_true] at hq ⊢
        exact ih _ _ w (by simp [hsz]) hcnt' inv' hw hq

theorem At.quiet_tail {id : Nat} {l0 l : List Oper} (N : Nat) (e : flat l0 = some l) (hm : P.follows .mixedOrders = true) (hB : tailB l N = true)
    (h : AtQ P n F (HW w0 m Rs) (l.take N).toArray (fun a' => ∀ w', HW w0 m Rs w' → wpList P l.toArray Q (l.drop N) a' w') (l.take N)) : At n w0 F m Rs ((Code.region id l0.toArray true).wp P Q) := fun a w ha hw => by
  have := flat_eq l0 l e; subst this
  simp only [tailB, Bool.and_eq_true, decide_eq_true_eq] at hB
  obtain ⟨⟨⟨⟨⟨hN, hE⟩, hL⟩, hs⟩, hc⟩, hseq⟩ := hB
  have htl : (l.take N).length = N := by simp; omega
  simp only [Region.lexB, Bool.and_eq_true] at hL
  refine wp_region_any hm ?_
  have h1 := wpAnyQ_lex (C := HW w0 m Rs) (md := .any) hL.1 (l.take N) 0 (Array.replicate (l.take N).toArray.size false) a (by simp) (by simpa using hL.2) (h a ha)
  have hrep : Array.replicate l.toArray.size false = Array.replicate N false ++ Array.replicate (l.length - N) false := by
    rw [Array.replicate_append_replicate]; congr 1; simp; omega
  rw [hrep]
  have := head_any (P := P) (Q := Q) (C := HW w0 m Rs) (T := fun a' => ∀ w', HW w0 m Rs w' → wpList P l.toArray Q (l.drop N) a' w') hN rfl hE hs hc
    (fun a' w' hw' hT => by
      have hx := wpAny_of_seq (P := P) (md := .any) (Q' := Q) (l.drop N) N (Array.replicate N true ++ Array.replicate (l.length - N) false) a' w' (fun j => by simp [List.getElem?_drop]) (by simpa using hseq) (hT w' hw')
      simpa using hx)
    N (Array.replicate N false) a { w with drawn := w.drawn + 1 } (by simp) (by simp) ?_ (hw.drawn _) (by simpa [htl, Nat.min_eq_left (Nat.le_of_lt hN)] using h1)
  · have e2 : l.toArray.size = N + (l.length - N) := by simp; omega
    rw [e2]; exact this
  · refine ⟨by simp; omega, fun j oj _ hl => ?_, fun t _ ht => ?_⟩
    · exfalso
      rw [Array.replicate_append_replicate, getD_replicate_false] at hl; cases hl
    · rw [Array.replicate_append_replicate]
      exact getD_in (by simp at ht ⊢; omega) (getD_replicate_false _ _)

theorem AtQ.done {ops : Array Oper} {l : List Oper} {K : Act → World → Prop} (h : At n w0 F m Rs K) : AtQ P n F (HW w0 m Rs) ops (fun a' => ∀ w', HW w0 m Rs w' → K a' w') [] := fun a ha => wpQuiet_nil fun w' hw' => h a w' ha hw'
end
end Go.J
/- Values and slices that are written out. -/
set_option linter.unusedSimpArgs false
set_option linter.unusedVariables false
set_option linter.unusedSectionVars false
set_option maxRecDepth 20000
namespace Go.J
open Go

theorem putl_step {v : Value} {vs : List Value} : ∀ (k : Nat) (cs r : List Value), putl cs k (v :: vs) = some r → k < cs.length ∧ putl (cs.set k v) (k + 1) vs = some r := by
  intro k
  induction k with
  | zero =>
    intro cs r hp
    cases cs with
    | nil => simp [putl] at hp
    | cons c cs =>
      simp only [putl] at hp
      cases hh : putl cs 0 vs with
      | none => rw [hh] at hp; cases hp
      | some r' => rw [hh] at hp; cases hp; exact ⟨by simp, by simp [putl, hh]⟩
  | succ k ih =>
    intro cs r hp
    cases cs with
    | nil => simp [putl] at hp
    | cons c cs =>
      simp only [putl] at hp
      cases hh : putl cs k (v :: vs) with
      | none => rw [hh] at hp; cases hp
      | some r' =>
        rw [hh] at hp; cases hp
        have := ih cs r' hh
        exact ⟨by simp; omega, by simp [putl, this.2]⟩

theorem foldl_putl (off : Nat) : ∀ (vs : List Value) (k : Nat) (cs r : List Value), putl cs (off + k) vs = some r → ((vs.zipIdx k).foldl (fun (a : Array Value) (x : Value × Nat) => a.setIfInBounds (off + x.2) x.1) cs.toArray) = r.toArray
  | [], k, cs, r, h => by
    have : r = cs := by
      have := putl_get _ _ _ _ h
      apply List.ext_getElem?
      intro i
      rw [this.2.2 i, if_neg (by simp)]
    subst this
    rfl
  | v :: vs, k, cs, r, h => by
    obtain ⟨h1, h2⟩ := putl_step _ _ _ h
    rw [List.zipIdx_cons, List.foldl_cons]
    have e : (cs.toArray.setIfInBounds (off + k) v) = (cs.set (off + k) v).toArray := by simp
    rw [e]
    exact foldl_putl off vs (k + 1) _ r (by rw [← Nat.add_assoc]; exact h2)

def fillL (place : Nat → Option (Nat × Nat)) : List Value → List (Nat × Value) → Option (List Value)
  | cs, [] => some cs
  | cs, (i, v) :: rest => match place i with
    | some (off, size) => match cellsB v with
      | some vs => match Nat.beq vs.length size with
        | true => match putl cs off vs with
          | some r => fillL place r rest
          | none => none
        | false => none
      | none => none
    | none => none
theorem fillL_eq (place : Nat → Option (Nat × Nat)) : ∀ (ps : List (Nat × Value)) (cs r : List Value), fillL place cs ps = some r → Instr.fill place cs.toArray ps = some r.toArray
  | [], cs, r, h => by cases h; rfl
  | (i, v) :: rest, cs, r, h => by
    simp only [fillL] at h
    unfold Instr.fill
    cases hp : place i with
    | none => rw [hp] at h; cases h
    | some q =>
      obtain ⟨off, size⟩ := q
      rw [hp] at h
      simp only at h ⊢
      cases hv : cellsB v with
      | none => rw [hv] at h; cases h
      | some vs =>
        rw [hv] at h
        simp only at h
        have hvc := cellsB_eq hv
        cases hb : Nat.beq vs.length size with
        | false => rw [hb] at h; cases h
        | true =>
          rw [hb] at h
          simp only at h
          cases hq : putl cs off vs with
          | none => rw [hq] at h; cases h
          | some r' =>
            rw [hq] at h
            simp only at h
            have hlen := Nat.eq_of_beq_eq_true hb
            have hg := putl_get _ _ _ _ hq
            have hz : v.cells.size = vs.length := by rw [hvc]; simp
            rw [if_neg (by have := hg.1; simp [hz, hlen]; omega)]
            have hf := foldl_putl off vs 0 cs r' (by simpa using hq)
            have : v.cells.zipIdx.foldl (fun (a : Array Value) (x : Value × Nat) => a.setIfInBounds (off + x.2) x.1) cs.toArray = r'.toArray := by
              rw [hvc, ← hf, ← Array.foldl_toList]
              simp
            rw [show (v.cells.zipIdx.foldl (fun cs (c, j) => cs.setIfInBounds (off + j) c) cs.toArray) = r'.toArray from this]
            exact fillL_eq place rest r' r h

def placesL (P : Program) : List Field → Option (List (Nat × Nat))
  | [] => some []
  | f :: fs => match P.info? f.type with
    | some i => match placesL P fs with
      | some r => some ((f.offset, i.size) :: r)
      | none => none
    | none => none
theorem placesL_eq {P : Program} : ∀ (fs : List Field) (r : List (Nat × Nat)), placesL P fs = some r → fs.mapM (fun f => (P.info? f.type).map fun i => (f.offset, i.size)) = some r
  | [], r, h => by cases h; rfl
  | f :: fs, r, h => by
    simp only [placesL] at h
    cases hi : P.info? f.type with
    | none => rw [hi] at h; cases h
    | some i =>
      rw [hi] at h
      simp only at h
      cases hr : placesL P fs with
      | none => rw [hr] at h; cases h
      | some r' =>
        rw [hr] at h
        cases h
        simp [List.mapM_cons, hi, placesL_eq fs r' hr]
def nthP : List (Nat × Nat) → Nat → Option (Nat × Nat)
  | [], _ => none
  | c :: _, 0 => some c
  | _ :: cs, o + 1 => nthP cs o
theorem nthP_eq : ∀ (cs : List (Nat × Nat)) (o : Nat), nthP cs o = cs[o]?
  | [], _ => by simp [nthP]
  | _ :: _, 0 => rfl
  | _ :: cs, o + 1 => by rw [nthP, nthP_eq cs o]; rfl

/-- the parts of a written value, by their operands -/
def evps (F : Fr) : List (Nat × Operand) → Option (List (Nat × Value))
  | [] => some []
  | (i, x) :: xs => match ev F x with
    | some v => match evps F xs with
      | some vs => some ((i, v) :: vs)
      | none => none
    | none => none
theorem evps_map {n : Nat} {F : Fr} {a : Act} (ha : HF n F a) : ∀ (xs : List (Nat × Operand)) (vs : List (Nat × Value)), evps F xs = some vs → xs.map (fun (i, x) => (i, a.eval x)) = vs
  | [], vs, h => by cases h; rfl
  | (i, x) :: xs, vs, h => by
    simp only [evps] at h
    cases hx : ev F x with
    | none => rw [hx] at h; cases h
    | some v =>
      rw [hx] at h
      simp only at h
      cases hxs : evps F xs with
      | none => rw [hxs] at h; cases h
      | some us =>
        rw [hxs] at h; cases h
        simp only [List.map_cons, ha.ev hx]
        rw [evps_map ha xs us hxs]

def zeroL (P : Program) (t : TypeId) : Option (List Value) := match P.info? t with
  | some i => match i.zero with
    | some z => cellsB z
    | none => none
  | none => none
def buildL (P : Program) (t : TypeId) (ps : List (Nat × Value)) : Option (List Value) :=
  match P.underlying t with
  | some (.struct fields) => match zeroL P t with
    | some z => match placesL P fields.toList with
      | some places => match fillL (nthP places) z ps with
        | some r => flat r
        | none => none
      | none => none
    | none => none
  | _ => none

section
variable {P : Program} {n : Nat} {w0 : World} {F : Fr} {m : Mem} {Rs : List Res} {Q : Exit → Act → World → Prop} {K : Act → World → Prop} {C : World → Prop}

theorem zeroL_spec {t : TypeId} {zs : List Value} (h : zeroL P t = some zs) : ∃ i z, P.info? t = some i ∧ i.zero = some z ∧ z.cells = zs.toArray := by
  unfold zeroL at h
  cases hi : P.info? t with
  | none => rw [hi] at h; cases h
  | some i =>
    rw [hi] at h
    simp only at h
    cases hz : i.zero with
    | none => rw [hz] at h; cases h
    | some z => rw [hz] at h; exact ⟨i, z, rfl, hz, cellsB_eq h⟩

theorem buildL_eq {t : TypeId} {ps : List (Nat × Value)} {r : List Value} (h : buildL P t ps = some r) : P.built t ps = some r.toArray := by
  unfold buildL at h
  unfold Program.built
  cases hu : P.underlying t with
  | none => rw [hu] at h; cases h
  | some d =>
    rw [hu] at h
    cases d <;> simp at h
    rename_i fields
    cases hz : zeroL P t with
    | none => rw [hz] at h; simp at h
    | some zs =>
      obtain ⟨i, z, hi, hzz, hzc⟩ := zeroL_spec hz
      rw [hz] at h
      simp only at h
      cases hp : placesL P fields.toList with
      | none => rw [hp] at h; simp at h
      | some places =>
        rw [hp] at h
        simp only at h
        cases hf : fillL (nthP places) zs ps with
        | none => rw [hf] at h; cases h
        | some r' =>
          rw [hf] at h
          have := flat_eq _ _ h
          subst this
          simp only [hi, hzz, placesL_eq _ _ hp, hzc]
          have e : (fun (x : Nat) => places.toArray[x]?) = nthP places := by funext x; rw [nthP_eq]; simp
          rw [e]
          exact fillL_eq _ _ _ _ hf

theorem pr_build {t : TypeId} {xs : List (Nat × Operand)} {ps : List (Nat × Value)} {r : List Value} (hx : evps F xs = some ps) (hb : buildL P t ps = some r) : PR P n F C (.build t xs.toArray) (.agg r.toArray) := fun _ _ _ _ _ a w ha _ => by
  have e : (xs.toArray.map fun (i, x) => (i, a.eval x)) = ps.toArray := by simp [evps_map ha xs ps hx]
  simp only [execOp, e, Sem.run_bind]
  rw [run_build w t ps.toArray r.toArray (by simpa using buildL_eq hb)]
  rfl

def copies : Nat → List Value → List Value
  | 0, _ => []
  | k + 1, zs => zs ++ copies k zs
theorem copies_eq (zs : List Value) : ∀ k, copies k zs = (List.replicate k ()).flatMap (fun _ => zs)
  | 0 => rfl
  | k + 1 => by rw [copies, copies_eq zs k]; rfl
theorem copies_arr (z : Array Value) (zs : List Value) (hz : z = zs.toArray) (k : Nat) : ((Array.range (k * zs.length)).map (z[· % z.size]!)) = (copies k zs).toArray := by
  subst hz
  rw [copies_eq]
  have hl := flatMap_length (f := fun _ : Unit => zs) (sz := zs.length) (fun _ => rfl) (List.replicate k ())
  rw [List.length_replicate] at hl
  apply Array.ext_getElem?
  intro i
  by_cases hi : i < k * zs.length
  · have hpos : 0 < zs.length := by
      rcases Nat.eq_zero_or_pos zs.length with h | h
      · rw [h] at hi; simp at hi
      · exact h
    have hd : i / zs.length < k := Nat.div_lt_of_lt_mul (by rw [Nat.mul_comm]; exact hi)
    have hm : i % zs.length < zs.length := Nat.mod_lt _ hpos
    have hg := flatMap_get (f := fun _ : Unit => zs) (sz := zs.length) (fun _ => rfl) (List.replicate k ()) (i / zs.length) (i % zs.length) (by simpa using hd) hm
    rw [Nat.mul_comm, Nat.div_add_mod] at hg
    simp only [Array.getElem?_map, List.getElem?_toArray, hg]
    simp [hi, hm]
  · rw [Array.getElem?_eq_none (by simp; omega), Array.getElem?_eq_none (by simp only [List.size_toArray, hl]; omega)]

def litL (P : Program) (E : TypeId) (sz len : Nat) (ps : List (Nat × Value)) : Option (List Value) := match zeroL P E with
  | some zs => match fillL (fun i => some (i * sz, sz)) (copies len zs) ps with
    | some r => flat r
    | none => none
  | none => none

theorem At.lit {α : Type} [Inhabited α] {ops : Array Oper} {rest : List Oper} {d : Nat} {t E : TypeId} {len : Nat} {xs : List (Nat × Operand)} {ps : List (Nat × Value)} {ty : TypeId} {pos : String} {aft : Array Edge} {sz : Nat}
    (f : α → List Value) (l : List α) (hf : Fl f sz) (ht : P.underlying t = some (.slice E)) (he : elemB P E sz = true) (hx : evps F xs = some ps) (hsm : Nat.ble (len * sz) 16777216 = true) (hl : l.length = len)
    (hb : litL P E sz len ps = flat (l.flatMap f)) (hd : Nat.blt d n = true)
    (h : ∀ b, At n w0 ((d, .slice (some ⟨b, 0, none⟩) len len) :: F) m (.own f sz E (some ⟨b, 0, none⟩) len l :: Rs) (wpList P ops Q rest)) :
    At n w0 F m Rs (wpList P ops Q (⟨some d, .buildSlice t len xs.toArray, ty, pos, aft, none⟩ :: rest)) := fun a w ha hw =>
  wpList_plain rfl fun K hK => by
    obtain ⟨i, z, hi, hz, hsz, _, hzs⟩ := elemB_spec he
    have hll := flatMap_length hf.len l
    have hb' : litL P E sz len ps = some (l.flatMap f) := by rw [hb, flat_self]
    unfold litL at hb'
    cases hzl : zeroL P E with
    | none => rw [hzl] at hb'; cases hb'
    | some zs =>
      obtain ⟨i', z', hi', hz', hzc⟩ := zeroL_spec hzl
      rw [hi] at hi'; cases hi'
      rw [hz] at hz'; cases hz'
      rw [hzl] at hb'
      simp only at hb'
      cases hfl : fillL (fun i => some (i * sz, sz)) (copies len zs) ps with
      | none => rw [hfl] at hb'; cases hb'
      | some r =>
        rw [hfl] at hb'
        have hr := flat_eq _ _ hb'
        subst hr
        have hfill := fillL_eq _ _ _ _ hfl
        have hzl' : zs.length = sz := by rw [← hzs, hzc]; simp
        have hsm' := Nat.le_of_ble_eq_true hsm
        have e : (xs.toArray.map fun (i, x) => (i, a.eval x)) = ps.toArray := by simp [evps_map ha xs ps hx]
        have hrun : (Instr.buildSlice t len ps.toArray).run P w = .ok (.slice (some ⟨w.heap.size, 0, none⟩) len len) (w.alloc (.cells (l.flatMap f).toArray E)) := by
          have h0 : ¬ (len * i.size > 2 ^ 24) := by rw [hsz]; omega
          have hcp := copies_arr z.cells zs hzc len
          rw [hzl'] at hcp
          subst hsz
          by_cases hlz : len * i.size = 0
          · have hlen0 : len = 0 := by
              have := hf.pos
              rcases Nat.eq_zero_or_pos len with h | h
              · exact h
              · have := Nat.mul_pos h this; omega
            subst hlen0
            simp only [copies] at hfill
            have he0 : (Array.map (fun _ => (default : Value)) (Array.range 0)) = #[] := by simp [Array.range]
            simp [Instr.buildSlice, run_underlying ht, sizeOf, typeInfo, hi, he0, hfill, newRow]
          · exact run_buildSlice w t E len ps.toArray _ i z ht hi hz h0 hlz (by rw [hcp]; exact hfill)
        unfold Oper.wp
        have hex : (execOp a.eval ⟨some d, .buildSlice t len xs.toArray, ty, pos, aft, none⟩).run P w = .ok (.value (.slice (some ⟨w.heap.size, 0, none⟩) len len)) (w.alloc (.cells (l.flatMap f).toArray E)) := by
          simp only [execOp, e, Sem.run_bind, hrun]
          rfl
        rw [hex]
        refine hK _ _ (h _ _ _ (ha.put hd) (hw.add rfl rfl rfl (by simp) (fun k hk => heap_alloc_old w _ hk) ⟨fun k => k = w.heap.size, .inr ⟨w.heap.size, 0, _, rfl, heap_alloc_new w _, by omega, ?_, ?_, fun j hj => ?_, fun _ => Iff.rfl⟩, fun k hk => by omega⟩))
        · have hpos := hf.pos
          have : len * 1 ≤ len * sz := Nat.mul_le_mul_left _ hpos
          simp only [maxLen]; omega
        · rw [List.size_toArray, hll, hl]; omega
        · rw [Nat.zero_add]; simp
end
end Go.J
/- Regions that draw their order and do more than look: quiet operations first, whichever loud one may come next, by a plan. -/
set_option linter.unusedSimpArgs false
set_option linter.unusedVariables false
set_option linter.unusedSectionVars false
set_option maxRecDepth 20000
namespace Go.J
open Go

/-! ### lists of resources, whatever their order -/
theorem Sat_append {A B : List Res} {w : World} {s : Nat → Prop} : Sat (A ++ B) w s ↔ ∃ s1 s2, Sat A w s1 ∧ Sat B w s2 ∧ (∀ k, ¬ (s1 k ∧ s2 k)) ∧ (∀ k, s k ↔ s1 k ∨ s2 k) := by
  induction A generalizing s with
  | nil =>
    constructor
    · intro h; exact ⟨fun _ => False, s, fun _ h => h, h, fun _ h => h.1, fun k => by simp⟩
    · rintro ⟨s1, s2, h1, h2, _, he⟩
      have : s = s2 := by funext k; apply propext; rw [he]; exact ⟨fun x => x.resolve_left (h1 k), .inr⟩
      subst this; exact h2
  | cons R A ih =>
    constructor
    · rintro ⟨s1, s2, h1, h2, hd, he⟩
      obtain ⟨t1, t2, g1, g2, gd, ge⟩ := ih.1 h2
      refine ⟨fun k => s1 k ∨ t1 k, t2, ⟨s1, t1, h1, g1, fun k ⟨x, y⟩ => hd k ⟨x, (ge k).2 (.inl y)⟩, fun _ => Iff.rfl⟩, g2, ?_, fun k => ?_⟩
      · rintro k ⟨x | x, y⟩
        · exact hd k ⟨x, (ge k).2 (.inr y)⟩
        · exact gd k ⟨x, y⟩
      · rw [he, ge, or_assoc]
    · rintro ⟨s1, s2, ⟨t1, t2, g1, g2, gd, ge⟩, h2, hd, he⟩
      refine ⟨t1, fun k => t2 k ∨ s2 k, g1, ih.2 ⟨t2, s2, g2, h2, fun k ⟨x, y⟩ => hd k ⟨(ge k).2 (.inr x), y⟩, fun _ => Iff.rfl⟩, ?_, fun k => ?_⟩
      · rintro k ⟨x, y | y⟩
        · exact gd k ⟨x, y⟩
        · exact hd k ⟨(ge k).2 (.inl x), y⟩
      · rw [he, ge, or_assoc]

def Eqv (A B : List Res) : Prop := ∀ w s, Sat A w s ↔ Sat B w s
theorem Eqv.refl (A : List Res) : Eqv A A := fun _ _ => Iff.rfl
theorem Eqv.symm {A B : List Res} (h : Eqv A B) : Eqv B A := fun w s => (h w s).symm
theorem Eqv.trans {A B C : List Res} (h : Eqv A B) (h' : Eqv B C) : Eqv A C := fun w s => (h w s).trans (h' w s)
theorem Eqv.append {A A' B B' : List Res} (h : Eqv A A') (h' : Eqv B B') : Eqv (A ++ B) (A' ++ B') := fun w s => by
  rw [Sat_append, Sat_append]; simp only [h w, h' w]
theorem Eqv.comm (A B : List Res) : Eqv (A ++ B) (B ++ A) := fun w s => by
  rw [Sat_append, Sat_append]
  constructor
  · rintro ⟨s1, s2, h1, h2, hd, he⟩
    exact ⟨s2, s1, h2, h1, fun k x => hd k x.symm, fun k => by rw [he, or_comm]⟩
  · rintro ⟨s1, s2, h1, h2, hd, he⟩
    exact ⟨s2, s1, h2, h1, fun k x => hd k x.symm, fun k => by rw [he, or_comm]⟩
theorem Eqv.ent {A B : List Res} (h : Eqv A B) : Ent A B := fun w s hs => ⟨s, (h w s).1 hs, fun _ x => x⟩

/-- the first ones, out of the second, leave the third -/
inductive Take : List Res → List Res → List Res → Prop
  | nil {R : List Res} : Take [] R R
  | cons {X : Res} {A R R1 Y : List Res} : Pick R X R1 → Take A R1 Y → Take (X :: A) R Y
theorem Take.eqv {A R Y : List Res} (h : Take A R Y) : Eqv R (A ++ Y) := by
  induction h with
  | nil => exact Eqv.refl _
  | @cons X A R R1 Y hp _ ih =>
    intro w s
    rw [Sat.pick hp]
    have := Eqv.append (Eqv.refl [X]) ih w s
    simpa using this

/-- the second is the third, and the first -/
inductive Left : List Res → List Res → List Res → Prop
  | base {R : List Res} : Left R R []
  | cons {X : Res} {A R R1 Y : List Res} : Pick R X R1 → Left A R1 Y → Left (X :: A) R Y
  | extra {X : Res} {A R Y : List Res} : Left A R Y → Left A (X :: R) (X :: Y)
theorem Left.eqv {A R Y : List Res} (h : Left A R Y) : Eqv R (Y ++ A) := by
  induction h with
  | base => exact Eqv.refl _
  | @cons X A R R1 Y hp _ ih =>
    have h1 : Eqv R (X :: R1) := fun w s => Sat.pick hp
    have h2 : Eqv (X :: R1) ([X] ++ (Y ++ A)) := Eqv.append (A := [X]) (Eqv.refl _) ih
    have h3 : Eqv ([X] ++ (Y ++ A)) (Y ++ (X :: A)) := by
      have := Eqv.append (Eqv.comm [X] Y) (Eqv.refl A)
      rw [List.append_assoc, List.append_assoc] at this
      exact this
    exact h1.trans (h2.trans h3)
  | @extra X A R Y _ ih =>
    have h : Eqv ([X] ++ R) ([X] ++ (Y ++ A)) := Eqv.append (Eqv.refl _) ih
    exact h
/-- the first ones, out of the second, and what stands behind the third; all else is forgotten -/
inductive Keep : List Res → List Res → List Res → Prop
  | nil {R : List Res} : Keep [] R R
  | skip {X : Res} {R Y : List Res} : Keep [] R Y → Keep [] (X :: R) Y
  | cons {X : Res} {A R R1 Y : List Res} : Pick R X R1 → Keep A R1 Y → Keep (X :: A) R Y
theorem Keep.ent {A R Y : List Res} (h : Keep A R Y) : Ent R (A ++ Y) := by
  induction h with
  | nil => exact Ent.refl _
  | skip _ ih => exact (Ent.drop _ _).trans ih
  | cons hp _ ih => exact (Ent.of_pick hp).trans (Ent.cons _ ih)

def Sup (A B : List Res) : Prop := ∃ Y, Eqv B (A ++ Y)
theorem Sup.refl (A : List Res) : Sup A A := ⟨[], by rw [List.append_nil]; exact Eqv.refl _⟩
theorem Sup.trans {A B C : List Res} (h : Sup A B) (h' : Sup B C) : Sup A C :=
  let ⟨Y, hy⟩ := h
  let ⟨Z, hz⟩ := h'
  ⟨Y ++ Z, hz.trans (by rw [← List.append_assoc]; exact Eqv.append hy (Eqv.refl _))⟩
theorem Sup.front (X A : List Res) : Sup A (X ++ A) := ⟨X, Eqv.comm _ _⟩
theorem Sup.ent {A B : List Res} (h : Sup A B) : Ent B A := fun w s hs => by
  obtain ⟨Y, hy⟩ := h
  obtain ⟨s1, s2, h1, _, _, he⟩ := Sat_append.1 ((hy w s).1 hs)
  exact ⟨s1, h1, fun k x => (he k).2 (.inl x)⟩
theorem Take.sup {A R Y : List Res} (h : Take A R Y) : Sup A R := ⟨Y, h.eqv⟩

/-- the first ahead of the second, reckoned -/
def apd : List Res → List Res → Option (List Res)
  | [], Rs => some Rs
  | x :: X, Rs => match apd X Rs with
    | some r => some (x :: r)
    | none => none
theorem apd_eq : ∀ (X Rs R : List Res), apd X Rs = some R → R = X ++ Rs
  | [], _, _, h => by cases h; rfl
  | x :: X, Rs, R, h => by
    simp only [apd] at h
    cases hh : apd X Rs with
    | none => rw [hh] at h; cases h
    | some r => rw [hh] at h; cases h; rw [apd_eq X Rs r hh]; rfl

/-! ### plans -/
inductive Plan
  | done
  | q (i : Nat) (p : Plan)
  | l (i : Nat) (p : Plan)
  | x (i : Nat) (p : Plan)
  | b (i j : Nat) (p r : Plan)
  | t (i j k : Nat) (p q r : Plan)

def markAfter (ops : Array Oper) (i : Nat) (marks : Array Bool) : Array Bool :=
  match ops[i]? with
  | some o => o.after.toList.foldl (fun (m : Array Bool) e => if Region.binds .any e then m.setIfInBounds e.on true else m) marks
  | none => marks
/-- an operation whose value no memory tells -/
def memless (o : Oper) : Bool := match o.op with
  | .move _ => true
  | .assign _ => true
  | .nilCheck _ => true
  | .fieldAddr _ _ _ => true
  | .extract _ _ => true
  | .binOp .add _ _ _ _ => true
  | .binOp .sub _ _ _ _ => true
  | _ => false
def memlessAt (ops : Array Oper) (k : Nat) : Bool := match ops[k]? with
  | some o => memless o
  | none => false
def coverB (ops : Array Oper) (s : Array Bool) : Nat → Array Bool → Bool
  | 0, _ => true
  | k + 1, marks => if s.getD k false then (if memlessAt ops k then coverB ops s k (if marks.getD k false then markAfter ops k marks else marks) else marks.getD k false && coverB ops s k (markAfter ops k marks)) else coverB ops s k marks
/-- whatever has come up, this one waited for it, or for one that did -/
def barrierB (ops : Array Oper) (s : Array Bool) (i : Nat) : Bool := coverB ops s ops.size (markAfter ops i (Array.replicate ops.size false))

def Closed (ops : Array Oper) (s : Array Bool) : Prop := ∀ k o, ops[k]? = some o → s.getD k false = true → ∀ e ∈ o.after, Region.binds .any e = true → s.getD e.on false = true
theorem Closed.empty (ops : Array Oper) (n : Nat) : Closed ops (Array.replicate n false) := fun k o _ hk => by
  exfalso
  rcases Nat.lt_or_ge k n with h | h
  · simp [h] at hk
  · simp [Array.getElem?_eq_none (by simpa using h : (Array.replicate n false).size ≤ k)] at hk
theorem Closed.set {ops : Array Oper} {s : Array Bool} (h : Closed ops s) {i : Nat} (hi : i ∈ Region.ready .any ops s) : Closed ops (s.setIfInBounds i true) := fun k o hk hl e he hb => by
  by_cases hik : i = k
  · subst hik
    obtain ⟨_, o', ho', hall⟩ := mem_ready.1 hi
    rw [hk] at ho'; cases ho'
    exact getD_set_true (hall e he hb)
  · rw [getD_set_ne false hik] at hl
    exact getD_set_true (h k o hk hl e he hb)
theorem fold_marks {s' : Array Bool} : ∀ (es : List Edge) (marks : Array Bool), (∀ k, marks.getD k false = true → s'.getD k false = true) → (∀ e ∈ es, Region.binds .any e = true → s'.getD e.on false = true) →
    ∀ k, (es.foldl (fun (m : Array Bool) e => if Region.binds .any e then m.setIfInBounds e.on true else m) marks).getD k false = true → s'.getD k false = true
  | [], _, h, _, k, hk => h k hk
  | e :: es, marks, h, he, k, hk => by
    refine fold_marks es _ (fun k' hk' => ?_) (fun e' h' => he e' (List.mem_cons_of_mem _ h')) k hk
    by_cases hb : Region.binds .any e = true
    · simp only [hb, if_true] at hk'
      by_cases hek : e.on = k'
      · subst hek; exact he e (List.mem_cons_self ..) hb
      · rw [getD_set_ne false hek] at hk'; exact h k' hk'
    · simp only [hb] at hk'; exact h k' hk'
theorem mark_after {ops : Array Oper} {s' : Array Bool} {i : Nat} {o : Oper} (ho : ops[i]? = some o) {marks : Array Bool} (h : ∀ k, marks.getD k false = true → s'.getD k false = true)
    (he : ∀ e ∈ o.after, Region.binds .any e = true → s'.getD e.on false = true) : ∀ k, (markAfter ops i marks).getD k false = true → s'.getD k false = true := by
  unfold markAfter
  rw [ho]
  exact fold_marks _ _ h (fun e h' => he e (by simpa using h'))
theorem coverB_spec {ops : Array Oper} {s s' : Array Bool} (hc : Closed ops s') : ∀ (n : Nat) (marks : Array Bool), n ≤ ops.size → (∀ k, marks.getD k false = true → s'.getD k false = true) → coverB ops s n marks = true → ∀ k, k < n → s.getD k false = true → memlessAt ops k = false → s'.getD k false = true
  | 0, _, _, _, _, k, hk, _, _ => by omega
  | n + 1, marks, hn, hm, hB, k, hk, hs, hz => by
    unfold coverB at hB
    have ho : ops[n]? = some ops[n] := by simp
    by_cases hsn : s.getD n false = true
    · simp only [hsn, if_true] at hB
      cases hmn : memlessAt ops n with
      | true =>
        simp only [hmn, if_true] at hB
        have hkn : k ≠ n := fun e => by subst e; rw [hmn] at hz; cases hz
        by_cases hmk : marks.getD n false = true
        · simp only [hmk, if_true] at hB
          exact coverB_spec hc n _ (by omega) (mark_after ho hm (hc n _ ho (hm n hmk))) hB k (by omega) hs hz
        · simp only [hmk] at hB
          exact coverB_spec hc n _ (by omega) hm hB k (by omega) hs hz
      | false =>
        simp only [hmn, Bool.false_eq_true, if_false, Bool.and_eq_true] at hB
        have hn' := hm n hB.1
        by_cases hkn : k = n
        · subst hkn; exact hn'
        · exact coverB_spec hc n _ (by omega) (mark_after ho hm (hc n _ ho hn')) hB.2 k (by omega) hs hz
    · simp only [hsn] at hB
      by_cases hkn : k = n
      · subst hkn; exact absurd hs hsn
      · exact coverB_spec hc n _ (by omega) hm hB k (by omega) hs hz

def planB (ops : Array Oper) : Nat → Array Bool → Plan → Bool
  | _, s, .done => (Region.ready .any ops s).isEmpty
  | f + 1, s, .q i p => (Region.ready .any ops s).contains i && Region.free .any ops s i && planB ops f (s.setIfInBounds i true) p
  | f + 1, s, .l i p => (Region.ready .any ops s == [i]) && planB ops f (s.setIfInBounds i true) p
  | f + 1, s, .x i p => (Region.ready .any ops s == [i]) && barrierB ops s i && planB ops f (s.setIfInBounds i true) p
  | f + 1, s, .b i j p r => (Region.ready .any ops s == [i, j]) && planB ops f (s.setIfInBounds i true) p && planB ops f (s.setIfInBounds j true) r
  | f + 1, s, .t i j k p q r => (Region.ready .any ops s == [i, j, k]) && planB ops f (s.setIfInBounds i true) p && planB ops f (s.setIfInBounds j true) q && planB ops f (s.setIfInBounds k true) r
  | 0, _, _ => false
def mixB (l : List Oper) (p : Plan) : Bool := Region.noSelect l.toArray && planB l.toArray l.length (Array.replicate l.length false) p

def Q0 (K : Act → World → Prop) : Exit → Act → World → Prop
  | .normal, a, w => K a w
  | _, _, _ => False

section
variable {P : Program} {n : Nat} {w0 : World} {F : Fr} {m : Mem} {Rs X : List Res} {Q : Exit → Act → World → Prop} {K : Act → World → Prop} {C : World → Prop}

theorem Oper.wp_turn {o : Oper} {a : Act} {w : World} {K1 K2 K3 K4 : Act → World → Prop} (h : ∀ a w, K1 a w → K2 a w) (hh : o.wp P a w K1 (Q0 K3)) : o.wp P a w K2 (Q0 K4) := by
  unfold Oper.wp at *
  generalize (execOp a.eval o).run P w = r at *
  cases r with
  | ok n w' =>
    cases n <;> simp only [Oper.upon] at hh ⊢ <;>
      first
        | exact h _ _ hh
        | exact Calls.mono hh (fun e w'' he => by
            cases e with
            | returned v => exact h _ _ he
            | panicked c => exact he.elim
            | outgrown => obtain ⟨_, _, x⟩ := he; exact x.elim)
        | exact Rows.mono hh (fun _ _ he => h _ _ he)
  | halt x w' => cases x <;> simp only [Oper.upon] at hh ⊢ <;> exact hh.elim

theorem wpOp_of_list {ops : Array Oper} {i : Nat} {o : Oper} {a : Act} {w : World} {K1 K2 : Act → World → Prop} (ho : ops[i]? = some o) (h : wpList P ops (Q0 K1) [o] a w) : wpOp P ops (Q0 K2) i K1 a w := by
  unfold wpOp
  simp only [ho]
  unfold wpList at h
  by_cases hw : Region.wanted o (yielded ops a.tmps) = true
  · simp only [hw, if_true] at h ⊢
    rcases h with h | ⟨_, _, _, h⟩
    · exact .inl (Oper.wp_turn (fun _ _ x => x) h)
    · exact h.elim
  · simp only [hw] at h ⊢
    exact h

/-- from here on, whatever order comes up -/
def GM (P : Program) (ops : Array Oper) (w0 : World) (K : Act → World → Prop) : Nat → Mem → List Res → List Res → Array Bool → Act → Prop
  | 0, m, Rs, X, s, a => Region.ready .any ops s = [] ∧ ∀ w, HW w0 m (X ++ Rs) w → K a w
  | f + 1, m, Rs, X, s, a => (Region.ready .any ops s = [] → ∀ w, HW w0 m (X ++ Rs) w → K a w) ∧
    ∀ i ∈ Region.ready .any ops s, ∀ w, HW w0 m (X ++ Rs) w → wpOp P ops (Q0 K) i (fun a' w' => ∃ m' Rs' X', ((m.le m' ∧ Sup Rs Rs') ∨ barrierB ops s i = true) ∧ HW w0 m' (X' ++ Rs') w' ∧ GM P ops w0 K f m' Rs' X' (s.setIfInBounds i true) a') a w

theorem GM.any {ops : Array Oper} : ∀ (f : Nat) (m : Mem) (Rs X : List Res) (s : Array Bool) (a : Act) (w : World), HW w0 m (X ++ Rs) w → GM P ops w0 K f m Rs X s a → wpAny P .any ops (Q0 K) f s a w
  | 0, _, _, _, _, _, w, hw, h => ⟨h.1, h.2 w hw⟩
  | f + 1, _, _, _, _, _, w, hw, h => ⟨fun h0 => h.1 h0 w hw, fun i hi => wpOp_mono (fun a' w' ⟨m', Rs', X', _, h2, h3⟩ => GM.any f m' Rs' X' _ a' w' h2 h3) (h.2 i hi w hw)⟩

/-- one value, wherever the memory and the resources of the base are -/
def YM (P : Program) (ops : Array Oper) (w0 : World) (m : Mem) (Rs : List Res) (o : Oper) (v : Value) (a : Act) : Prop :=
  (Region.wanted o (yielded ops a.tmps) = true ∧ ((memless o = false ∧ ∀ m' R', m.le m' → Sup Rs R' → ∀ w, HW w0 m' R' w → o.quietAt P a (HW w0 m' R') w v) ∨ (memless o = true ∧ ∀ w, (execOp a.eval o).run P w = .ok (.value v) w))) ∨
  (Region.wanted o (yielded ops a.tmps) = false ∧ v = undef)

theorem YM.of_same {ops : Array Oper} {o : Oper} {v : Value} {a a' : Act} (hy : YM P ops w0 m Rs o v a) (he : execOp a'.eval o = execOp a.eval o)
    (hw : Region.wanted o (yielded ops a'.tmps) = Region.wanted o (yielded ops a.tmps)) : YM P ops w0 m Rs o v a' := by
  unfold YM Oper.quietAt at *
  rw [he, hw]
  exact hy
theorem YM.grow {ops : Array Oper} {o : Oper} {v : Value} {a : Act} {m' : Mem} {Rs' : List Res} (hy : YM P ops w0 m Rs o v a) (hm : memless o = true ∨ (m.le m' ∧ Sup Rs Rs')) : YM P ops w0 m' Rs' o v a :=
  hy.imp (fun ⟨h1, h2⟩ => ⟨h1, by
    rcases h2 with ⟨h2, h3⟩ | h2
    · rcases hm with hm | ⟨hm, hR⟩
      · rw [h2] at hm; cases hm
      · exact .inl ⟨h2, fun m2 R2 g1 g2 => h3 m2 R2 (Mem.le_trans hm g1) (hR.trans g2)⟩
    · exact .inr h2⟩) id
theorem YM.quiet {o : Oper} {v : Value} {a : Act} (h2 : (memless o = false ∧ ∀ m' R', m.le m' → Sup Rs R' → ∀ w, HW w0 m' R' w → o.quietAt P a (HW w0 m' R') w v) ∨ (memless o = true ∧ ∀ w, (execOp a.eval o).run P w = .ok (.value v) w)) :
    ∀ m' R', m.le m' → Sup Rs R' → ∀ w, HW w0 m' R' w → o.quietAt P a (HW w0 m' R') w v := by
  rcases h2 with ⟨_, h2⟩ | ⟨_, h2⟩
  · exact h2
  · intro m' R' _ _ w _
    unfold Oper.quietAt
    rw [h2 w]
    exact ⟨rfl, rfl⟩

theorem putM {ops : Array Oper} {j : Nat} {oi oj : Oper} {v : Value} (hj : ops[j]? = some oj) (hap : oi.apart ops oj = true)
    (hsi : ∀ cs b, oi.op ≠ .select cs b) (hsj : ∀ cs b, oj.op ≠ .select cs b) {K1 K2 : Act → World → Prop} {a : Act} {w : World}
    (hy : YM P ops w0 m Rs oi v a) (h : wpOp P ops (Q0 K2) j K1 (a.put oi.dst v) w) :
    wpOp P ops (Q0 K2) j (fun a' w' => YM P ops w0 m Rs oi v a' ∧ K1 (a'.put oi.dst v) w') a w := by
  obtain ⟨h1, h2, h3⟩ := Oper.apart_spec hap
  have keep : ∀ (a : Act), YM P ops w0 m Rs oi v a → ∀ u, YM P ops w0 m Rs oi v (a.put oj.dst u) := fun a hy u =>
    hy.of_same (execOp_put oi hsi a oj.dst u h3) (wanted_put oi a oj.dst u h3)
  have keepD : ∀ d, YM P ops w0 m Rs oi v { a with defers := d :: a.defers } := fun d => hy.of_same rfl rfl
  unfold wpOp at *
  simp only [hj] at *
  rw [wanted_put oj a oi.dst v h1] at h
  split
  · rename_i hw
    simp only [hw, if_true] at h
    rcases h with h | ⟨_, _, _, hlets⟩
    case inr => exact hlets.elim
    refine .inl ?_
    unfold Oper.wp at *
    rw [execOp_put oj hsj a oi.dst v h1] at h
    generalize (execOp a.eval oj).run P w = r at *
    cases r with
    | ok n w' =>
      cases n <;> simp only [Oper.upon] at h ⊢
      case value u => exact ⟨keep a hy u, by rw [← Act.put_comm a v u h2]; exact h⟩
      case skip => exact ⟨keep a hy _, by rw [← Act.put_comm a v undef h2]; exact h⟩
      case defer d =>
        refine ⟨keep _ (keepD d) _, ?_⟩
        rw [← Act.put_comm _ v undef h2, ← Act.put_defers]
        exact h
      case enter f args =>
        refine Calls.mono h fun e w'' he => ?_
        cases e with
        | returned u => exact ⟨keep a hy u, by rw [← Act.put_comm a v u h2]; exact he⟩
        | panicked c => exact he
        | outgrown => exact he
      case row row args => exact Rows.mono h fun u w'' he => ⟨keep a hy u, by rw [← Act.put_comm a v u h2]; exact he⟩
    | halt x w' =>
      cases x <;> simp only [Oper.upon] at h ⊢
      case panic u => exact h
  · rename_i hw
    simp only [hw] at h
    exact ⟨keep a hy _, by rw [← Act.put_comm a v undef h2]; exact h⟩

theorem YM.wpOp {ops : Array Oper} {i : Nat} {o : Oper} {v : Value} {a : Act} (hi : ops[i]? = some o) (hy : YM P ops w0 m Rs o v a) {K1 K2 : Act → World → Prop} {w : World} (hw : HW w0 m (X ++ Rs) w) (h : ∀ w', HW w0 m (X ++ Rs) w' → K1 (a.put o.dst v) w') : wpOp P ops (Q0 K2) i K1 a w := by
  rcases hy with ⟨h1, h2⟩ | ⟨h1, rfl⟩
  · refine wpOp_of_qOp (C := HW w0 m (X ++ Rs)) (K := fun a' => ∀ w', HW w0 m (X ++ Rs) w' → K1 a' w') hw (fun a' w' hw' hk => hk w' hw') ?_
    unfold qOp
    simp only [hi, h1, if_true]
    exact ⟨v, fun w' hw' => YM.quiet h2 m (X ++ Rs) (Mem.le_refl _) (Sup.front X Rs) w' hw', h⟩
  · unfold Go.wpOp
    simp only [hi, h1, Bool.false_eq_true, if_false]
    exact h w hw

theorem coverB_less {ops : Array Oper} {s : Array Bool} {i : Nat} (hcl : Closed ops s) (hi : s.getD i false = false) (hat : memlessAt ops i = true) : ∀ (n : Nat) (marks : Array Bool), n ≤ ops.size → (∀ k, marks.getD k false = true → s.getD k false = true) → coverB ops (s.setIfInBounds i true) n marks = true → coverB ops s n marks = true
  | 0, _, _, _, _ => rfl
  | n + 1, marks, hn, hm, h => by
    have ho : ops[n]? = some ops[n] := by simp
    have ih := coverB_less hcl hi hat n
    unfold coverB at h ⊢
    by_cases hni : n = i
    · subst hni
      have hmk : marks.getD n false = false := by
        cases hq : marks.getD n false with
        | false => rfl
        | true => rw [hm n hq] at hi; cases hi
      simp only [hat, if_true, hmk, Bool.false_eq_true, if_false] at h
      simp only [hi, Bool.false_eq_true, if_false]
      apply ih marks (by omega) hm
      split at h <;> exact h
    · rw [getD_set_ne false (Ne.symm hni)] at h
      by_cases hsn : s.getD n false = true
      · simp only [hsn, if_true] at h ⊢
        cases hmn : memlessAt ops n with
        | true =>
          simp only [hmn, if_true] at h ⊢
          by_cases hmk : marks.getD n false = true
          · simp only [hmk, if_true] at h ⊢
            exact ih _ (by omega) (mark_after ho hm (hcl n _ ho hsn)) h
          · simp only [hmk] at h ⊢
            exact ih _ (by omega) hm h
        | false =>
          simp only [hmn, Bool.false_eq_true, if_false, Bool.and_eq_true] at h ⊢
          exact ⟨h.1, ih _ (by omega) (mark_after ho hm (hcl n _ ho hsn)) h.2⟩
      · simp only [hsn] at h ⊢
        exact ih _ (by omega) hm h

theorem GM.first {ops : Array Oper} {i : Nat} {oi : Oper} {v : Value} (hi : ops[i]? = some oi) (hsel : ∀ (j : Nat) (o : Oper) cs b, ops[j]? = some o → o.op ≠ .select cs b) :
    ∀ (f : Nat) (m : Mem) (Rs X : List Res) (s : Array Bool) (a : Act),
      (∀ j oj, ops[j]? = some oj → j ≠ i → s.getD j true = false → (∀ e ∈ oj.after, Region.binds .any e = true → e.on ≠ i) → oi.apart ops oj = true) →
      Closed ops s → i ∈ Region.ready .any ops s → YM P ops w0 m Rs oi v a →
      GM P ops w0 K f m Rs X (s.setIfInBounds i true) (a.put oi.dst v) → GM P ops w0 K (f + 1) m Rs X s a := by
  intro f
  induction f with
  | zero =>
    intro m Rs X s a _ hcl hr hy H
    refine ⟨fun h => (by rw [h] at hr; cases hr), fun j hj w hw => ?_⟩
    by_cases hji : j = i
    · subst hji; exact hy.wpOp hi hw fun w' hw' => ⟨m, Rs, X, .inl ⟨Mem.le_refl _, Sup.refl _⟩, hw', H⟩
    · have := ready_mono hj hji
      rw [H.1] at this
      cases this
  | succ f ih =>
    intro m Rs X s a hfree hcl hr hy H
    refine ⟨fun h => (by rw [h] at hr; cases hr), fun j hj w hw => ?_⟩
    by_cases hji : j = i
    · subst hji; exact hy.wpOp hi hw fun w' hw' => ⟨m, Rs, X, .inl ⟨Mem.le_refl _, Sup.refl _⟩, hw', H⟩
    · have h1 := H.2 j (ready_mono hj hji) w hw
      obtain ⟨hjun, oj, hoj, hall⟩ := mem_ready.1 hj
      have hnot : ∀ e ∈ oj.after, Region.binds .any e = true → e.on ≠ i := fun e he hb heq => by
        have h1 := hall e he hb
        have h0 := (mem_ready.1 hr).1
        rw [heq] at h1
        rcases Nat.lt_or_ge i s.size with h' | h'
        · simp [h'] at h0 h1; rw [h0] at h1; cases h1
        · simp [Array.getElem?_eq_none h'] at h1
      have h2 := putM hoj (hfree j oj hoj hji hjun hnot) (fun cs b => hsel i oi cs b hi) (fun cs b => hsel j oj cs b hoj) hy h1
      have hfree' : ∀ k ok, ops[k]? = some ok → k ≠ i → (s.setIfInBounds j true).getD k true = false →
          (∀ e ∈ ok.after, Region.binds .any e = true → e.on ≠ i) → oi.apart ops ok = true := fun k ok hk hki hun hno => by
        refine hfree k ok hk hki ?_ hno
        by_cases hjk : j = k
        · subst hjk; exact hjun
        · rw [getD_set_ne true hjk] at hun; exact hun
      refine wpOp_mono (fun a' w' h3 => ?_) h2
      obtain ⟨hy', m', Rs', X', hext, hw', hG⟩ := h3
      have hext' : (m.le m' ∧ Sup Rs Rs') ∨ (barrierB ops s j = true ∧ memless oi = true) := by
        rcases hext with h | h
        · exact .inl h
        · have hisz : i < ops.size := (Array.getElem?_eq_some_iff.1 hi).1
          have hat : memlessAt ops i = memless oi := by simp [memlessAt, hi]
          cases hml : memless oi with
          | true =>
            refine .inr ⟨?_, rfl⟩
            rw [hml] at hat
            have h0 := (mem_ready.1 hr).1
            have hi0 : s.getD i false = false := by
              rcases Nat.lt_or_ge i s.size with h' | h'
              · simp [h'] at h0 ⊢; exact h0
              · simp [Array.getElem?_eq_none h'] at h0
            exact coverB_less hcl hi0 hat _ _ (Nat.le_refl _) (mark_after hoj (marks := Array.replicate ops.size false) (fun k hk => by
              exfalso
              rcases Nat.lt_or_ge k ops.size with h' | h'
              · simp [h'] at hk
              · simp [Array.getElem?_eq_none (by simpa using h' : (Array.replicate ops.size false).size ≤ k)] at hk) (fun e he hb => hall e he hb)) h
          | false =>
            exfalso
            have hlisted : (s.setIfInBounds i true).getD i false = true := by
              have h0 := (mem_ready.1 hr).1
              rcases Nat.lt_or_ge i s.size with h' | h'
              · simp [h']
              · simp [Array.getElem?_eq_none h'] at h0
            have hin := coverB_spec hcl ops.size _ (Nat.le_refl _) (mark_after hoj (marks := Array.replicate ops.size false) (fun k hk => by
              exfalso
              rcases Nat.lt_or_ge k ops.size with h' | h'
              · simp [h'] at hk
              · simp [Array.getElem?_eq_none (by simpa using h' : (Array.replicate ops.size false).size ≤ k)] at hk) (fun e he hb => hall e he hb)) h i hisz hlisted (by rw [hat, hml])
            have h0 := (mem_ready.1 hr).1
            rcases Nat.lt_or_ge i s.size with h' | h'
            · simp [h'] at h0 hin; rw [h0] at hin; cases hin
            · simp [Array.getElem?_eq_none h'] at h0
      refine ⟨m', Rs', X', hext'.imp id (·.1), hw', ih m' Rs' X' (s.setIfInBounds j true) a' hfree' (hcl.set hj) (ready_mono hr (Ne.symm hji)) (hy'.grow (hext'.symm.imp (·.2) id)) ?_⟩
      rw [Array.setIfInBounds_comm _ _ hji]
      exact hG

/-! ### the walk by a plan -/
def nthO : List Oper → Nat → Option Oper
  | [], _ => none
  | o :: _, 0 => some o
  | _ :: os, i + 1 => nthO os i
theorem nthO_eq : ∀ (os : List Oper) (i : Nat), nthO os i = os[i]?
  | [], _ => by simp [nthO]
  | _ :: _, 0 => rfl
  | _ :: os, i + 1 => by rw [nthO, nthO_eq os i]; rfl

def AtM (P : Program) (n : Nat) (w0 : World) (F : Fr) (m : Mem) (Rs X : List Res) (K : Act → World → Prop) (l : List Oper) (f : Nat) (s : Array Bool) (p : Plan) : Prop :=
  Region.noSelect l.toArray = true → planB l.toArray f s p = true → Closed l.toArray s → ∀ a, HF n F a → GM P l.toArray w0 K f m Rs X s a

/-- a quiet operation, whatever guards it had decided -/
def AtM1 (P : Program) (n : Nat) (w0 : World) (F : Fr) (m : Mem) (Rs X : List Res) (K : Act → World → Prop) (l : List Oper) (f : Nat) (s : Array Bool) (p : Plan) (o : Oper) : Prop :=
  ∀ a, HF n F a → ∃ v, YM P l.toArray w0 m Rs o v a ∧ (Region.noSelect l.toArray = true → planB l.toArray f s p = true → Closed l.toArray s → GM P l.toArray w0 K f m Rs X s (a.put o.dst v))

variable {l : List Oper} {f : Nat} {s : Array Bool} {p : Plan}

theorem At.mixed {id : Nat} {l0 l : List Oper} (N : Nat) (p : Plan) (e : flat l0 = some l) (hN : Nat.beq l.length N = true) (hm : P.follows .mixedOrders = true) (hB : mixB l p = true)
    (h : AtM P n w0 F m Rs [] (Q .normal) l N (Array.replicate l.length false) p) : At n w0 F m Rs ((Code.region id l0.toArray true).wp P Q) := fun a w ha hw => by
  have := flat_eq l0 l e; subst this
  simp only [mixB, Bool.and_eq_true] at hB
  have hN' := Nat.eq_of_beq_eq_true hN
  subst hN'
  have hG := h hB.1 hB.2 (Closed.empty _ _) a ha
  refine Code.wp_mono (Q := Q0 (Q .normal)) (fun e a' w' q => by cases e <;> first | exact q | exact q.elim) (wp_region_any hm ?_)
  have := GM.any (P := P) l.length m Rs [] _ a { w with drawn := w.drawn + 1 } (hw.drawn _) hG
  simpa using this

/-- the same, where one block is only written -/
theorem At.mixedB {id : Nat} {l0 l : List Oper} (t N : Nat) (p : Plan) {b : Nat} {E : TypeId} {cs : List Value} {Base : List Res} (ht : look t F = some (.pointer (some ⟨b, 0, none⟩))) (hX : Pick Rs (.blk b E cs) Base) (e : flat l0 = some l) (hN : Nat.beq l.length N = true) (hm : P.follows .mixedOrders = true) (hB : mixB l p = true)
    (h : AtM P n w0 F m Base [.blk b E cs] (Q .normal) l N (Array.replicate l.length false) p) : At n w0 F m Rs ((Code.region id l0.toArray true).wp P Q) := fun a w ha hw => by
  have := flat_eq l0 l e; subst this
  simp only [mixB, Bool.and_eq_true] at hB
  have hN' := Nat.eq_of_beq_eq_true hN
  subst hN'
  have hG := h hB.1 hB.2 (Closed.empty _ _) a ha
  refine Code.wp_mono (Q := Q0 (Q .normal)) (fun e a' w' q => by cases e <;> first | exact q | exact q.elim) (wp_region_any hm ?_)
  have := GM.any (P := P) l.length m Base [.blk b E cs] _ a { w with drawn := w.drawn + 1 } ((hw.ent (Ent.of_pick hX)).drawn _) hG
  simpa using this

theorem AtM.done {R : List Res} (e : apd X Rs = some R) (h : At n w0 F m R K) : AtM P n w0 F m Rs X K l f s .done := fun _ hp _ a ha => by
  have := apd_eq _ _ _ e; subst this
  have hr : Region.ready .any l.toArray s = [] := by
    cases f <;> (unfold planB at hp; simpa using hp)
  cases f with
  | zero => exact ⟨hr, fun w hw => h a w ha hw⟩
  | succ f => exact ⟨fun _ w hw => h a w ha hw, fun i hi => by rw [hr] at hi; cases hi⟩

theorem AtM.qo {i : Nat} {o : Oper} (ho : nthO l i = some o) (h : AtM1 P n w0 F m Rs X K l f (s.setIfInBounds i true) p o) : AtM P n w0 F m Rs X K l (f + 1) s (.q i p) := fun hs hp hcl a ha => by
  unfold planB at hp
  simp only [Bool.and_eq_true] at hp
  obtain ⟨v, hy, hG⟩ := h a ha
  have ho' : l.toArray[i]? = some o := by rw [nthO_eq] at ho; simpa using ho
  exact GM.first ho' (Region.noSelect_spec hs) f m Rs X s a (Region.free_spec ho' hp.1.2) hcl (by simpa using hp.1.1) hy (hG hs hp.2 (hcl.set (by simpa using hp.1.1)))

/-- where a loud operation comes back to -/
def Back (P : Program) (n : Nat) (w0 : World) (m : Mem) (Rs : List Res) (K : Act → World → Prop) (l : List Oper) (f : Nat) (s : Array Bool) (p : Plan) (a : Act) (w : World) : Prop :=
  ∃ F' m' Rs' X', HF n F' a ∧ HW w0 m' (X' ++ Rs') w ∧ m.le m' ∧ Sup Rs Rs' ∧ AtM P n w0 F' m' Rs' X' K l f s p
def BackX (P : Program) (n : Nat) (w0 : World) (K : Act → World → Prop) (l : List Oper) (f : Nat) (s : Array Bool) (p : Plan) (a : Act) (w : World) : Prop :=
  ∃ F' m' Rs', HF n F' a ∧ HW w0 m' Rs' w ∧ AtM P n w0 F' m' Rs' [] K l f s p

theorem AtM.lo {i : Nat} {o : Oper} {R : List Res} (ho : nthO l i = some o) (e : apd X Rs = some R) (h : At n w0 F m R (wpList P l.toArray (Q0 (Back P n w0 m Rs K l f (s.setIfInBounds i true) p)) [o])) : AtM P n w0 F m Rs X K l (f + 1) s (.l i p) := fun hs hp hcl a ha => by
  have := apd_eq _ _ _ e; subst this
  unfold planB at hp
  simp only [Bool.and_eq_true, beq_iff_eq] at hp
  have ho' : l.toArray[i]? = some o := by rw [nthO_eq] at ho; simpa using ho
  refine ⟨fun h0 => (by rw [hp.1] at h0; cases h0), fun j hj w hw => ?_⟩
  have hrd := hj
  rw [hp.1] at hj
  obtain rfl : j = i := by simpa using hj
  refine wpOp_mono (fun a' w' ⟨F', m', Rs', X', h1, h2, h3, h4, h5⟩ => ⟨m', Rs', X', .inl ⟨h3, h4⟩, h2, h5 hs hp.2 (hcl.set hrd) a' h1⟩) (wpOp_of_list ho' (h a w ha hw))

theorem AtM.xo {i : Nat} {o : Oper} {R : List Res} (ho : nthO l i = some o) (e : apd X Rs = some R) (h : At n w0 F m R (wpList P l.toArray (Q0 (BackX P n w0 K l f (s.setIfInBounds i true) p)) [o])) : AtM P n w0 F m Rs X K l (f + 1) s (.x i p) := fun hs hp hcl a ha => by
  have := apd_eq _ _ _ e; subst this
  unfold planB at hp
  simp only [Bool.and_eq_true, beq_iff_eq] at hp
  have ho' : l.toArray[i]? = some o := by rw [nthO_eq] at ho; simpa using ho
  refine ⟨fun h0 => (by rw [hp.1.1] at h0; cases h0), fun j hj w hw => ?_⟩
  have hrd := hj
  rw [hp.1.1] at hj
  obtain rfl : j = i := by simpa using hj
  refine wpOp_mono (fun a' w' ⟨F', m', Rs', h1, h2, h5⟩ => ⟨m', Rs', [], .inr hp.1.2, h2, h5 hs hp.2 (hcl.set hrd) a' h1⟩) (wpOp_of_list ho' (h a w ha hw))

theorem AtM.bo {i j : Nat} {o o' : Oper} {R : List Res} {r : Plan} (ho : nthO l i = some o) (ho2 : nthO l j = some o') (e : apd X Rs = some R)
    (h : At n w0 F m R (wpList P l.toArray (Q0 (Back P n w0 m Rs K l f (s.setIfInBounds i true) p)) [o]))
    (h' : At n w0 F m R (wpList P l.toArray (Q0 (Back P n w0 m Rs K l f (s.setIfInBounds j true) r)) [o'])) : AtM P n w0 F m Rs X K l (f + 1) s (.b i j p r) := fun hs hp hcl a ha => by
  have := apd_eq _ _ _ e; subst this
  unfold planB at hp
  simp only [Bool.and_eq_true, beq_iff_eq] at hp
  have ho' : l.toArray[i]? = some o := by rw [nthO_eq] at ho; simpa using ho
  have ho2' : l.toArray[j]? = some o' := by rw [nthO_eq] at ho2; simpa using ho2
  refine ⟨fun h0 => (by rw [hp.1.1] at h0; cases h0), fun k hk w hw => ?_⟩
  have hrd := hk
  rw [hp.1.1] at hk
  simp only [List.mem_cons, List.not_mem_nil, or_false] at hk
  rcases hk with rfl | rfl
  · exact wpOp_mono (fun a' w' ⟨F', m', Rs', X', h1, h2, h3, h4, h5⟩ => ⟨m', Rs', X', .inl ⟨h3, h4⟩, h2, h5 hs hp.1.2 (hcl.set hrd) a' h1⟩) (wpOp_of_list ho' (h a w ha hw))
  · exact wpOp_mono (fun a' w' ⟨F', m', Rs', X', h1, h2, h3, h4, h5⟩ => ⟨m', Rs', X', .inl ⟨h3, h4⟩, h2, h5 hs hp.2 (hcl.set hrd) a' h1⟩) (wpOp_of_list ho2' (h' a w ha hw))

theorem AtM.tr {i j k : Nat} {o o' o'' : Oper} {R : List Res} {q r : Plan} (ho : nthO l i = some o) (ho2 : nthO l j = some o') (ho3 : nthO l k = some o'') (e : apd X Rs = some R)
    (h : At n w0 F m R (wpList P l.toArray (Q0 (Back P n w0 m Rs K l f (s.setIfInBounds i true) p)) [o]))
    (h' : At n w0 F m R (wpList P l.toArray (Q0 (Back P n w0 m Rs K l f (s.setIfInBounds j true) q)) [o']))
    (h'' : At n w0 F m R (wpList P l.toArray (Q0 (Back P n w0 m Rs K l f (s.setIfInBounds k true) r)) [o''])) : AtM P n w0 F m Rs X K l (f + 1) s (.t i j k p q r) := fun hs hp hcl a ha => by
  have := apd_eq _ _ _ e; subst this
  unfold planB at hp
  simp only [Bool.and_eq_true, beq_iff_eq] at hp
  have ho' : l.toArray[i]? = some o := by rw [nthO_eq] at ho; simpa using ho
  have ho2' : l.toArray[j]? = some o' := by rw [nthO_eq] at ho2; simpa using ho2
  have ho3' : l.toArray[k]? = some o'' := by rw [nthO_eq] at ho3; simpa using ho3
  refine ⟨fun h0 => (by rw [hp.1.1.1] at h0; cases h0), fun y hk w hw => ?_⟩
  have hrd := hk
  rw [hp.1.1.1] at hk
  simp only [List.mem_cons, List.not_mem_nil, or_false] at hk
  rcases hk with rfl | rfl | rfl
  · exact wpOp_mono (fun a' w' ⟨F', m', Rs', X', h1, h2, h3, h4, h5⟩ => ⟨m', Rs', X', .inl ⟨h3, h4⟩, h2, h5 hs hp.1.1.2 (hcl.set hrd) a' h1⟩) (wpOp_of_list ho' (h a w ha hw))
  · exact wpOp_mono (fun a' w' ⟨F', m', Rs', X', h1, h2, h3, h4, h5⟩ => ⟨m', Rs', X', .inl ⟨h3, h4⟩, h2, h5 hs hp.1.2 (hcl.set hrd) a' h1⟩) (wpOp_of_list ho2' (h' a w ha hw))
  · exact wpOp_mono (fun a' w' ⟨F', m', Rs', X', h1, h2, h3, h4, h5⟩ => ⟨m', Rs', X', .inl ⟨h3, h4⟩, h2, h5 hs hp.2 (hcl.set hrd) a' h1⟩) (wpOp_of_list ho3' (h'' a w ha hw))

theorem At.back {m0 : Mem} {R X' : List Res} (hR : Left Rs R X') (hm : m0.le m) (h : AtM P n w0 F m Rs X' K l f s p) : At n w0 F m R (wpList P l.toArray (Q0 (Back P n w0 m0 Rs K l f s p)) []) := fun a w ha hw =>
  ⟨F, m, Rs, X', ha, hw.ent hR.eqv.ent, hm, Sup.refl _, h⟩
theorem At.backX {R : List Res} (h : AtM P n w0 F m R [] K l f s p) : At n w0 F m R (wpList P l.toArray (Q0 (BackX P n w0 K l f s p)) []) := fun a w ha hw =>
  ⟨F, m, R, ha, hw, h⟩

/-- what is new may be looked at, too -/
theorem AtM.promote {R : List Res} {X0 : Res} {X1 : List Res} (hX : X = X0 :: X1) (e : apd X Rs = some R) (h : AtM P n w0 F m R [] K l f s p) : AtM P n w0 F m Rs X K l f s p := fun hs hp hcl a ha => by
  have := apd_eq _ _ _ e; subst this
  have := h hs hp hcl a ha
  cases f with
  | zero => exact this
  | succ f => exact ⟨this.1, fun i hi w hw => wpOp_mono (fun a' w' ⟨m', Rs', X', h1, h2⟩ => ⟨m', Rs', X', h1.imp (fun h => ⟨h.1, (Sup.front X Rs).trans h.2⟩) id, h2⟩) (this.2 i hi w hw)⟩

variable {o : Oper}
theorem AtM1.val {d : Nat} {op : Op} {ty : TypeId} {pos : String} {aft : Array Edge} {v : Value} (hz : memless ⟨some d, op, ty, pos, aft, none⟩ = false) (hp : PR P n F (HW w0 m Rs) op v) (hd : Nat.blt d n = true)
    (h : AtM P n w0 ((d, v) :: F) m Rs X K l f s p) : AtM1 P n w0 F m Rs X K l f s p ⟨some d, op, ty, pos, aft, none⟩ := fun a ha =>
  ⟨v, .inl ⟨by simp [Region.wanted], .inl ⟨hz, fun m' R' hm hR w hw => by
    unfold Oper.quietAt
    rw [hp _ _ _ _ _ a w ha ((hw.ent hR.ent).weak hm)]
    exact ⟨rfl, rfl⟩⟩⟩, fun hs hpl hcl => h hs hpl hcl _ (ha.put hd)⟩
theorem AtM1.valz {d : Nat} {op : Op} {ty : TypeId} {pos : String} {aft : Array Edge} {v : Value} (hz : memless ⟨some d, op, ty, pos, aft, none⟩ = true) (hp : PR P n F (fun _ => True) op v) (hd : Nat.blt d n = true)
    (h : AtM P n w0 ((d, v) :: F) m Rs X K l f s p) : AtM1 P n w0 F m Rs X K l f s p ⟨some d, op, ty, pos, aft, none⟩ := fun a ha =>
  ⟨v, .inl ⟨by simp [Region.wanted], .inr ⟨hz, fun w => hp _ _ _ _ _ a w ha trivial⟩⟩, fun hs hpl hcl => h hs hpl hcl _ (ha.put hd)⟩
theorem AtM1.callp {d : Nat} {g : FuncId} {xs : List Operand} {ts : Array TypeId} {ty : TypeId} {pos : String} {aft : Array Edge} {vs : List Value} {V : Value}
    (hg : goFn P g = true) (hx : evs F xs = some vs) (hd : Nat.blt d n = true) (hc : Pu P g vs.toArray V)
    (h : AtM P n w0 ((d, V) :: F) m Rs X K l f s p) : AtM1 P n w0 F m Rs X K l f s p ⟨some d, .call ⟨.value (.func g), xs.toArray, ts⟩, ty, pos, aft, none⟩ := fun a ha =>
  ⟨V, .inl ⟨by simp [Region.wanted], .inl ⟨rfl, fun m' R' hm hR w hw => by
    unfold Oper.quietAt
    have : (execOp a.eval ⟨some d, .call ⟨.value (.func g), xs.toArray, ts⟩, ty, pos, aft, none⟩).run P w = .ok (.enter g vs.toArray) w := by
      rw [execOp_call_go]
      have : (#[] ++ xs.toArray.map a.eval ++ #[] : Array Value) = vs.toArray := by simp [evs_map ha xs vs hx]
      rw [this, run_callFunc hg]
    rw [this]
    exact ⟨rfl, hc.calls hw⟩⟩⟩, fun hs hpl hcl => h hs hpl hcl _ (ha.put hd)⟩
theorem AtM1.guard_y {d : Option Tmp} {op : Op} {ty : TypeId} {pos : String} {aft : Array Edge} {j : Nat} {want : Bool} {t : Nat}
    (hj : (nthO l j).bind (·.dst) = some t) (ht : look t F = some (.bool want)) (htn : Nat.blt t n = true) (h : AtM1 P n w0 F m Rs X K l f s p ⟨d, op, ty, pos, aft, none⟩) :
    AtM1 P n w0 F m Rs X K l f s p ⟨d, op, ty, pos, aft, some (j, want)⟩ := fun a ha => by
  obtain ⟨v, hy, hG⟩ := h a ha
  have hj' : (l.toArray[j]?).bind (·.dst) = some t := by rw [nthO_eq] at hj; simpa using hj
  refine ⟨v, ?_, hG⟩
  rcases hy with ⟨_, h2⟩ | ⟨h1, _⟩
  · exact .inl ⟨by simp [Region.wanted, yielded_of ha hj' ht htn], h2⟩
  · simp [Region.wanted] at h1
theorem AtM1.guard_n {d : Nat} {op : Op} {ty : TypeId} {pos : String} {aft : Array Edge} {j : Nat} {want : Bool} {t : Nat} {v : Value}
    (hj : (nthO l j).bind (·.dst) = some t) (ht : look t F = some v) (hv : v ≠ .bool want) (hd : Nat.blt d n = true) (h : AtM P n w0 ((d, undef) :: F) m Rs X K l f s p) :
    AtM1 P n w0 F m Rs X K l f s p ⟨some d, op, ty, pos, aft, some (j, want)⟩ := fun a ha => by
  have hj' : (l.toArray[j]?).bind (·.dst) = some t := by rw [nthO_eq] at hj; simpa using hj
  exact ⟨undef, .inr ⟨by
    have := yielded_ne (ops := l.toArray) ha hj' ht hv
    simpa [Region.wanted] using this, rfl⟩, fun hs hpl hcl => h hs hpl hcl _ (ha.put hd)⟩
theorem AtM1.guard_s {d : Option Tmp} {op : Op} {ty : TypeId} {pos : String} {aft : Array Edge} {j : Nat} {want : Bool} {t : Nat} {b : Bool}
    (hj : (nthO l j).bind (·.dst) = some t) (ht : look t F = some (.bool b))
    (h1 : b = true → AtM1 P n w0 ((t, .bool true) :: F) m Rs X K l f s p ⟨d, op, ty, pos, aft, some (j, want)⟩)
    (h2 : b = false → AtM1 P n w0 ((t, .bool false) :: F) m Rs X K l f s p ⟨d, op, ty, pos, aft, some (j, want)⟩) :
    AtM1 P n w0 F m Rs X K l f s p ⟨d, op, ty, pos, aft, some (j, want)⟩ := fun a ha => by
  have _ := hj
  cases b
  · exact h2 rfl a (ha.note ht rfl)
  · exact h1 rfl a (ha.note ht rfl)
theorem AtM1.guard_nt {d : Nat} {op : Op} {ty : TypeId} {pos : String} {aft : Array Edge} {j : Nat} {t : Nat}
    (hj : (nthO l j).bind (·.dst) = some t) (ht : look t F = some (.bool false)) (hd : Nat.blt d n = true) (h : AtM P n w0 ((d, undef) :: F) m Rs X K l f s p) :
    AtM1 P n w0 F m Rs X K l f s p ⟨some d, op, ty, pos, aft, some (j, true)⟩ := AtM1.guard_n hj ht (by simp) hd h
theorem AtM1.guard_nf {d : Nat} {op : Op} {ty : TypeId} {pos : String} {aft : Array Edge} {j : Nat} {t : Nat}
    (hj : (nthO l j).bind (·.dst) = some t) (ht : look t F = some (.bool true)) (hd : Nat.blt d n = true) (h : AtM P n w0 ((d, undef) :: F) m Rs X K l f s p) :
    AtM1 P n w0 F m Rs X K l f s p ⟨some d, op, ty, pos, aft, some (j, false)⟩ := AtM1.guard_n hj ht (by simp) hd h
theorem AtM1.guard_nu {d : Nat} {op : Op} {ty : TypeId} {pos : String} {aft : Array Edge} {j : Nat} {want : Bool} {t : Nat}
    (hj : (nthO l j).bind (·.dst) = some t) (ht : look t F = some undef) (hd : Nat.blt d n = true) (h : AtM P n w0 ((d, undef) :: F) m Rs X K l f s p) :
    AtM1 P n w0 F m Rs X K l f s p ⟨some d, op, ty, pos, aft, some (j, want)⟩ := AtM1.guard_n hj ht (by simp [undef]) hd h

/-! ### calls that look at what is owned, and leave it -/
def Rd (P : Program) (f : FuncId) (args : Array Value) (m : Mem) (A : List Res) (V : Value) : Prop := Ct P f args m A (fun v m' B => v = V ∧ m' = m ∧ B = A)
theorem Rd.calls {g : FuncId} {args : Array Value} {A Y : List Res} {V : Value} (h : Rd P g args m A V) {R : List Res} (hR : Eqv R (A ++ Y)) {w : World} (hw : HW w0 m R w) : Calls P g args w fun e w' => e = .returned V ∧ HW w0 m R w' :=
  (h w0 Y w (hw.ent hR.ent)).mono fun _ _ ⟨v, m', B, he, _, ⟨hv, hm', hB⟩, hw'⟩ => by subst hv hm' hB; exact ⟨he, hw'.ent hR.symm.ent⟩

theorem AtM1.callr {d : Nat} {g : FuncId} {xs : List Operand} {ts : Array TypeId} {ty : TypeId} {pos : String} {aft : Array Edge} {vs : List Value} {V : Value} {A Y : List Res}
    (hg : goFn P g = true) (hx : evs F xs = some vs) (hd : Nat.blt d n = true) (hc : ∀ m', m.le m' → Rd P g vs.toArray m' A V) (hA : Take A Rs Y)
    (h : AtM P n w0 ((d, V) :: F) m Rs X K l f s p) : AtM1 P n w0 F m Rs X K l f s p ⟨some d, .call ⟨.value (.func g), xs.toArray, ts⟩, ty, pos, aft, none⟩ := fun a ha =>
  ⟨V, .inl ⟨by simp [Region.wanted], .inl ⟨rfl, fun m' R' hm hR w hw => by
    unfold Oper.quietAt
    have : (execOp a.eval ⟨some d, .call ⟨.value (.func g), xs.toArray, ts⟩, ty, pos, aft, none⟩).run P w = .ok (.enter g vs.toArray) w := by
      rw [execOp_call_go]
      have : (#[] ++ xs.toArray.map a.eval ++ #[] : Array Value) = vs.toArray := by simp [evs_map ha xs vs hx]
      rw [this, run_callFunc hg]
    rw [this]
    obtain ⟨Z, hZ⟩ := hA.sup.trans hR
    exact ⟨rfl, (hc m' hm).calls hZ hw⟩⟩⟩, fun hs hpl hcl => h hs hpl hcl _ (ha.put hd)⟩

theorem AtQ.callr {ops : Array Oper} {rest : List Oper} {Qq : Act → Prop} {d : Nat} {g : FuncId} {xs : List Operand} {ts : Array TypeId} {ty : TypeId} {pos : String} {aft : Array Edge} {vs : List Value} {V : Value} {A Y : List Res}
    (hg : goFn P g = true) (hx : evs F xs = some vs) (hd : Nat.blt d n = true) (hc : ∀ m', m.le m' → Rd P g vs.toArray m' A V) (hA : Take A Rs Y)
    (h : AtQ P n ((d, V) :: F) (HW w0 m Rs) ops Qq rest) : AtQ P n F (HW w0 m Rs) ops Qq (⟨some d, .call ⟨.value (.func g), xs.toArray, ts⟩, ty, pos, aft, none⟩ :: rest) := fun a ha => by
  unfold wpQuiet
  rw [if_pos (by simp [Region.wanted])]
  refine ⟨V, fun w hw => ?_, h _ (ha.put hd)⟩
  unfold Oper.quietAt
  have : (execOp a.eval ⟨some d, .call ⟨.value (.func g), xs.toArray, ts⟩, ty, pos, aft, none⟩).run P w = .ok (.enter g vs.toArray) w := by
    rw [execOp_call_go]
    have : (#[] ++ xs.toArray.map a.eval ++ #[] : Array Value) = vs.toArray := by simp [evs_map ha xs vs hx]
    rw [this, run_callFunc hg]
  rw [this]
  exact ⟨rfl, (hc m (Mem.le_refl _)).calls hA.eqv hw⟩

theorem At.callr {ops : Array Oper} {rest : List Oper} {d : Nat} {g : FuncId} {xs : List Operand} {ts : Array TypeId} {ty : TypeId} {pos : String} {aft : Array Edge} {vs : List Value} {V : Value} {A Y : List Res}
    (hg : goFn P g = true) (hx : evs F xs = some vs) (hd : Nat.blt d n = true) (hc : ∀ m', m.le m' → Rd P g vs.toArray m' A V) (hA : Take A Rs Y)
    (h : At n w0 ((d, V) :: F) m Rs (wpList P ops Q rest)) :
    At n w0 F m Rs (wpList P ops Q (⟨some d, .call ⟨.value (.func g), xs.toArray, ts⟩, ty, pos, aft, none⟩ :: rest)) :=
  At.call (A := A) (Rest := Y) hg hx (by simpa using hd) (hc m (Mem.le_refl _)) hA.eqv.ent fun v m' B _ ⟨hv, hm', hB⟩ => by
    subst hv hm' hB
    exact At.ent hA.eqv.symm.ent h

theorem At.callt {ops : Array Oper} {rest : List Oper} {d : Option Nat} {g : FuncId} {xs : List Operand} {ts : Array TypeId} {ty : TypeId} {pos : String} {aft : Array Edge} {vs : List Value} {A Rest : List Res} {R : Value → Mem → List Res → Prop}
    (hg : goFn P g = true) (hx : evs F xs = some vs) (hd : d.all (Nat.blt · n) = true) (hc : Ct P g vs.toArray m A R) (hA : Take A Rs Rest)
    (h : ∀ v m' B, m.le m' → R v m' B → At n w0 (d.elim F (fun d => (d, v) :: F)) m' (B ++ Rest) (wpList P ops Q rest)) :
    At n w0 F m Rs (wpList P ops Q (⟨d, .call ⟨.value (.func g), xs.toArray, ts⟩, ty, pos, aft, none⟩ :: rest)) := At.call hg hx hd hc hA.eqv.ent h

theorem At.storeB {ops : Array Oper} {rest : List Oper} {t : TypeId} {x y : Operand} {ty : TypeId} {pos : String} {aft : Array Edge} {b o : Nat} {v : Value} {vs cs r : List Value} {E : TypeId} {Rs' : List Res} {k : Nat}
    (hx : ev F x = some (.pointer (some ⟨b, o, none⟩))) (hy : ev F y = some v) (hv : cellsB v = some vs) (hs : sizeB P t = some k) (hk : vs.length = k) (h1 : vs.all oneCell = true)
    (hp : Repl Rs (.blk b E cs) (.blk b E r) Rs') (hr : putl cs o vs = some r)
    (h : At n w0 F m Rs' (wpList P ops Q rest)) : At n w0 F m Rs (wpList P ops Q (⟨none, .store t x y, ty, pos, aft, none⟩ :: rest)) := At.store hx hy hv hs hk h1 ⟨cs, rfl, hr⟩ hp h

/-! the end, what is left shown ahead of what comes back -/
theorem At.retB0 {fn : Func} {R : Value → Mem → List Res → Prop} {m0 : Mem} {Rest B : List Res} (hr : fn.results = #[])  (hm : m0.le m) (hB : Keep B Rs Rest) (hR : R (.tuple #[]) m B) :
    At n w0 F m Rs (bodyPost P fn (fun e w' => ∃ v m' B, e = .returned v ∧ m0.le m' ∧ R v m' B ∧ HW w0 m' (B ++ Rest) w') .normal) := At.ret0 hr  hm hR hB.ent
theorem At.retB1 {fn : Func} {R : Value → Mem → List Res → Prop} {m0 : Mem} {Rest B : List Res} {t : Nat} {vt : Value} (hr : fn.results = #[.tmp t]) (ht : look t F = some vt) (hm : m0.le m) (hB : Keep B Rs Rest) (hR : R vt m B) :
    At n w0 F m Rs (bodyPost P fn (fun e w' => ∃ v m' B, e = .returned v ∧ m0.le m' ∧ R v m' B ∧ HW w0 m' (B ++ Rest) w') .ret) := At.ret1 hr ht hm hR hB.ent
theorem At.retB2 {fn : Func} {R : Value → Mem → List Res → Prop} {m0 : Mem} {Rest B : List Res} {t u : Nat} {vt vu : Value} (hr : fn.results = #[.tmp t, .tmp u]) (ht : look t F = some vt) (hu : look u F = some vu) (hm : m0.le m) (hB : Keep B Rs Rest) (hR : R (.tuple #[vt, vu]) m B) :
    At n w0 F m Rs (bodyPost P fn (fun e w' => ∃ v m' B, e = .returned v ∧ m0.le m' ∧ R v m' B ∧ HW w0 m' (B ++ Rest) w') .ret) := At.ret2 hr ht hu hm hR hB.ent
theorem At.retB3 {fn : Func} {R : Value → Mem → List Res → Prop} {m0 : Mem} {Rest B : List Res} {t u v : Nat} {vt vu vv : Value} (hr : fn.results = #[.tmp t, .tmp u, .tmp v]) (ht : look t F = some vt) (hu : look u F = some vu) (hv : look v F = some vv) (hm : m0.le m) (hB : Keep B Rs Rest) (hR : R (.tuple #[vt, vu, vv]) m B) :
    At n w0 F m Rs (bodyPost P fn (fun e w' => ∃ v m' B, e = .returned v ∧ m0.le m' ∧ R v m' B ∧ HW w0 m' (B ++ Rest) w') .ret) := At.ret3 hr ht hu hv hm hR hB.ent
theorem At.retB4 {fn : Func} {R : Value → Mem → List Res → Prop} {m0 : Mem} {Rest B : List Res} {t u v y : Nat} {vt vu vv vy : Value} (hr : fn.results = #[.tmp t, .tmp u, .tmp v, .tmp y]) (ht : look t F = some vt) (hu : look u F = some vu) (hv : look v F = some vv) (hy : look y F = some vy) (hm : m0.le m) (hB : Keep B Rs Rest) (hR : R (.tuple #[vt, vu, vv, vy]) m B) :
    At n w0 F m Rs (bodyPost P fn (fun e w' => ∃ v m' B, e = .returned v ∧ m0.le m' ∧ R v m' B ∧ HW w0 m' (B ++ Rest) w') .ret) := At.ret4 hr ht hu hv hy hm hR hB.ent

/-! lists that are put together -/
theorem At.app0 {Rest : List Res} (h : At n w0 F m (Rest) K) : At n w0 F m ([] ++ Rest) K := h
theorem At.app1 {Rest : List Res} {R0 : Res} (h : At n w0 F m (R0 :: Rest) K) : At n w0 F m ([R0] ++ Rest) K := h
theorem At.app2 {Rest : List Res} {R0 R1 : Res} (h : At n w0 F m (R0 :: R1 :: Rest) K) : At n w0 F m ([R0, R1] ++ Rest) K := h
theorem At.app3 {Rest : List Res} {R0 R1 R2 : Res} (h : At n w0 F m (R0 :: R1 :: R2 :: Rest) K) : At n w0 F m ([R0, R1, R2] ++ Rest) K := h
theorem At.app4 {Rest : List Res} {R0 R1 R2 R3 : Res} (h : At n w0 F m (R0 :: R1 :: R2 :: R3 :: Rest) K) : At n w0 F m ([R0, R1, R2, R3] ++ Rest) K := h
theorem At.app5 {Rest : List Res} {R0 R1 R2 R3 R4 : Res} (h : At n w0 F m (R0 :: R1 :: R2 :: R3 :: R4 :: Rest) K) : At n w0 F m ([R0, R1, R2, R3, R4] ++ Rest) K := h
theorem At.app6 {Rest : List Res} {R0 R1 R2 R3 R4 R5 : Res} (h : At n w0 F m (R0 :: R1 :: R2 :: R3 :: R4 :: R5 :: Rest) K) : At n w0 F m ([R0, R1, R2, R3, R4, R5] ++ Rest) K := h
theorem At.app7 {Rest : List Res} {R0 R1 R2 R3 R4 R5 R6 : Res} (h : At n w0 F m (R0 :: R1 :: R2 :: R3 :: R4 :: R5 :: R6 :: Rest) K) : At n w0 F m ([R0, R1, R2, R3, R4, R5, R6] ++ Rest) K := h
end
end Go.J
/- A resource that says only that there is one: for a value's inner form. -/
set_option linter.unusedSimpArgs false
set_option linter.unusedVariables false
set_option linter.unusedSectionVars false
set_option maxRecDepth 20000
namespace Go.J
open Go

/-- the first is part of the second, in whatever order -/
inductive Low : List Res → List Res → Prop
  | base {R : List Res} : Low R R
  | cons {X : Res} {A R R1 : List Res} : Pick R X R1 → Low A R1 → Low (X :: A) R
  | skip {X : Res} {A R : List Res} : Low A R → Low A (X :: R)
theorem Low.ent {A R : List Res} (h : Low A R) : Ent R A := by
  induction h with
  | base => exact Ent.refl _
  | cons hp _ ih => exact (Ent.of_pick hp).trans (Ent.cons _ ih)
  | skip _ ih => exact (Ent.drop _ _).trans ih

def Res.ex {σ : Type} (I : σ → Prop) (A : σ → List Res) : Res where
  p w s := ∃ x, I x ∧ Sat (A x) w s
  loc := fun ⟨x, h1, h2⟩ he => ⟨x, h1, Sat.loc h2 he⟩
  dom := fun ⟨_, _, h2⟩ hk => Sat.dom h2 hk

theorem Ent.openx {σ : Type} {I : σ → Prop} {A : σ → List Res} {Rs : List Res} {w : World} {s : Nat → Prop} (h : Sat (.ex I A :: Rs) w s) : ∃ x, I x ∧ Sat (A x ++ Rs) w s := by
  obtain ⟨s1, s2, ⟨x, hI, h1⟩, h2, hd, he⟩ := h
  exact ⟨x, hI, Sat_append.2 ⟨s1, s2, h1, h2, hd, he⟩⟩
theorem Ent.closex {σ : Type} {I : σ → Prop} {A : σ → List Res} {Rs : List Res} (x : σ) (hI : I x) : Ent (A x ++ Rs) (.ex I A :: Rs) := fun w s h => by
  obtain ⟨s1, s2, h1, h2, hd, he⟩ := Sat_append.1 h
  exact ⟨s, ⟨s1, s2, ⟨x, hI, h1⟩, h2, hd, he⟩, fun _ x => x⟩

section
variable {P : Program} {n : Nat} {w0 : World} {F : Fr} {m : Mem} {Rs : List Res} {K : Act → World → Prop} {σ : Type} {I : σ → Prop} {A : σ → List Res}

theorem HW.openx {w : World} (h : HW w0 m (.ex I A :: Rs) w) : ∃ x, I x ∧ HW w0 m (A x ++ Rs) w := by
  obtain ⟨s, hs, hm⟩ := h.res
  obtain ⟨x, hI, hs'⟩ := Ent.openx hs
  exact ⟨x, hI, h.os, h.tape, h.output, h.size, h.mem, s, hs', hm⟩
theorem At.openx {Rs0 : List Res} (hp : Pick Rs0 (.ex I A) Rs) (h : ∀ x, I x → At n w0 F m (A x ++ Rs) K) : At n w0 F m Rs0 K := fun a w ha hw => by
  obtain ⟨x, hI, hw'⟩ := (hw.ent (Ent.of_pick hp)).openx
  exact h x hI a w ha hw'
theorem Ct.openx {f : FuncId} {args : Array Value} {A0 : List Res} {R : Value → Mem → List Res → Prop} (h : ∀ x, I x → Ct P f args m (A x ++ A0) R) : Ct P f args m (.ex I A :: A0) R := fun w0 Rest w hw => by
  obtain ⟨x, hI, hw'⟩ := HW.openx (Rs := A0 ++ Rest) hw
  exact h x hI w0 Rest w (by rw [List.append_assoc]; exact hw')
theorem Ct.conv {f : FuncId} {args : Array Value} {A0 : List Res} {R R' : Value → Mem → List Res → Prop} (h : Ct P f args m A0 R) (hr : ∀ v m' B, m.le m' → R v m' B → ∃ B', R' v m' B' ∧ ∀ Rest, Ent (B ++ Rest) (B' ++ Rest)) : Ct P f args m A0 R' :=
  fun w0 Rest w hw => (h w0 Rest w hw).mono fun _ _ ⟨v, m', B, he, hm, hR, hw'⟩ => let ⟨B', h1, h2⟩ := hr v m' B hm hR; ⟨v, m', B', he, hm, h1, hw'.ent (h2 Rest)⟩
theorem Rd.openx {f : FuncId} {args : Array Value} {A0 : List Res} {V : Value} (h : ∀ x, I x → Rd P f args m (A x ++ A0) V) : Rd P f args m (.ex I A :: A0) V :=
  Ct.openx fun x hI => Ct.conv (h x hI) fun v m' B _ ⟨h1, h2, h3⟩ => ⟨_, ⟨h1, h2, rfl⟩, fun Rest => by subst h3; rw [List.append_assoc]; exact Ent.closex x hI⟩
theorem Rd.frame {f : FuncId} {args : Array Value} {A0 A1 Y : List Res} {V : Value} (h : Rd P f args m A0 V) (ht : Take A0 A1 Y) : Rd P f args m A1 V := fun w0 Rest w hw => by
  have e : Eqv (A1 ++ Rest) (A0 ++ (Y ++ Rest)) := (Eqv.append ht.eqv (Eqv.refl Rest)).trans (by rw [List.append_assoc]; exact Eqv.refl _)
  exact (h w0 (Y ++ Rest) w (hw.ent e.ent)).mono fun _ _ ⟨v, m', B, he, hm, ⟨h1, h2, h3⟩, hw'⟩ => ⟨v, m', A1, he, hm, ⟨h1, h2, rfl⟩, by subst h3; exact hw'.ent e.symm.ent⟩

theorem At.callt1 {Q : Exit → Act → World → Prop} {F : Fr} {ops : Array Oper} {rest : List Oper} {d : Nat} {g : FuncId} {xs : List Operand} {ts : Array TypeId} {ty : TypeId} {pos : String} {aft : Array Edge} {vs : List Value} {A Rest : List Res} {R : Value → Mem → List Res → Prop}
    (hg : goFn P g = true) (hx : evs F xs = some vs) (hd : Nat.blt d n = true) (hc : Ct P g vs.toArray m A R) (hA : Take A Rs Rest)
    (h : ∀ v m' B, m.le m' → R v m' B → At n w0 ((d, v) :: F) m' (B ++ Rest) (wpList P ops Q rest)) :
    At n w0 F m Rs (wpList P ops Q (⟨some d, .call ⟨.value (.func g), xs.toArray, ts⟩, ty, pos, aft, none⟩ :: rest)) := At.call (d := some d) hg hx (by simpa using hd) hc hA.eqv.ent h
theorem At.callt0 {Q : Exit → Act → World → Prop} {F : Fr} {ops : Array Oper} {rest : List Oper} {g : FuncId} {xs : List Operand} {ts : Array TypeId} {ty : TypeId} {pos : String} {aft : Array Edge} {vs : List Value} {A Rest : List Res} {R : Value → Mem → List Res → Prop}
    (hg : goFn P g = true) (hx : evs F xs = some vs) (hc : Ct P g vs.toArray m A R) (hA : Take A Rs Rest)
    (h : ∀ v m' B, m.le m' → R v m' B → At n w0 F m' (B ++ Rest) (wpList P ops Q rest)) :
    At n w0 F m Rs (wpList P ops Q (⟨none, .call ⟨.value (.func g), xs.toArray, ts⟩, ty, pos, aft, none⟩ :: rest)) := At.call (d := none) hg hx rfl hc hA.eqv.ent h

/-! whole numbers that are not told as natural ones -/
section
variable {α : Type} [Inhabited α] {f : α → List Value} {sz : Nat} {E : TypeId} {p : Option Addr} {c : Nat} {l : List α} {Rs' : List Res} {F : Fr} {C : World → Prop}
/-- so long, at most, and of elements of so many cells -/
def LeSz (C : World → Prop) (_sz c ln : Nat) : Prop := ∀ w, C w → ln ≤ c
theorem own_le (hp : Pick Rs (.own f sz E p c l) Rs') : LeSz (HW w0 m Rs) sz c l.length := fun w hw => by
  obtain ⟨_, ⟨_, _, rfl, _⟩ | ⟨g, o, cur, rfl, _, h3, _⟩⟩ := hw.get hp
  · exact Nat.zero_le _
  · exact h3
theorem mem_le (h : Sl m f sz p c l) : LeSz (HW w0 m Rs) sz c l.length := fun _ _ => h.le
theorem pr_slice_gl {x y : Operand} {t E : TypeId} {ln lo sz : Nat} {k : IntKind} (hx : ev F x = some (.slice p ln c)) (hy : ev F y = some (.int k (lo : Int))) (hle : LeSz C sz c ln) (ht : P.underlying t = some (.slice E)) (hs : sizeB P E = some sz) (h1 : lo ≤ ln) :
    PR P n F C (.slice t x (some y) none none) (.slice (subp p c lo sz) (ln - lo) (c - lo)) := fun d ty pos aft g a w ha hC => pr_slice_l hx hy ht hs h1 (hle w hC) d ty pos aft g a w ha hC
theorem pr_slice_gh {x z : Operand} {t E : TypeId} {ln hi sz : Nat} {k : IntKind} (hx : ev F x = some (.slice p ln c)) (hz : ev F z = some (.int k (hi : Int))) (hle : LeSz C sz c ln) (ht : P.underlying t = some (.slice E)) (hs : sizeB P E = some sz) (h2 : hi ≤ ln) :
    PR P n F C (.slice t x none (some z) none) (.slice (subp p c 0 sz) (hi - 0) (c - 0)) := fun d ty pos aft g a w ha hC => pr_slice_h hx hz ht hs (Nat.le_trans h2 (hle w hC)) d ty pos aft g a w ha hC
theorem pr_slice_glh {x y z : Operand} {t E : TypeId} {ln lo hi sz : Nat} {k k' : IntKind} (hx : ev F x = some (.slice p ln c)) (hy : ev F y = some (.int k (lo : Int))) (hz : ev F z = some (.int k' (hi : Int))) (hle : LeSz C sz c ln) (ht : P.underlying t = some (.slice E)) (hs : sizeB P E = some sz) (h1 : lo ≤ hi) (h2 : hi ≤ ln) :
    PR P n F C (.slice t x (some y) (some z) none) (.slice (subp p c lo sz) (hi - lo) (c - lo)) := fun d ty pos aft g a w ha hC => pr_slice_lh hx hy hz ht hs h1 (Nat.le_trans h2 (hle w hC)) d ty pos aft g a w ha hC
theorem pr_slice_gli {x y : Operand} {t E : TypeId} {ln sz : Nat} {q : Int} {k : IntKind} (hx : ev F x = some (.slice p ln c)) (hy : ev F y = some (.int k q)) (hle : LeSz C sz c ln) (ht : P.underlying t = some (.slice E)) (hs : sizeB P E = some sz) (h0 : 0 ≤ q) (h1 : q ≤ ln) :
    PR P n F C (.slice t x (some y) none none) (.slice (subp p c q.toNat sz) (ln - q.toNat) (c - q.toNat)) := pr_slice_gl hx (lo := q.toNat) (by rw [hy, Int.toNat_of_nonneg h0]) hle ht hs (by omega)
theorem pr_slice_ghi {x z : Operand} {t E : TypeId} {ln sz : Nat} {q : Int} {k : IntKind} (hx : ev F x = some (.slice p ln c)) (hz : ev F z = some (.int k q)) (hle : LeSz C sz c ln) (ht : P.underlying t = some (.slice E)) (hs : sizeB P E = some sz) (h0 : 0 ≤ q) (h2 : q ≤ ln) :
    PR P n F C (.slice t x none (some z) none) (.slice (subp p c 0 sz) (q.toNat - 0) (c - 0)) := pr_slice_gh hx (hi := q.toNat) (by rw [hz, Int.toNat_of_nonneg h0]) hle ht hs (by omega)
theorem pr_slice_glhi {x y z : Operand} {t E : TypeId} {ln sz : Nat} {q r : Int} {k k' : IntKind} (hx : ev F x = some (.slice p ln c)) (hy : ev F y = some (.int k q)) (hz : ev F z = some (.int k' r)) (hle : LeSz C sz c ln) (ht : P.underlying t = some (.slice E)) (hs : sizeB P E = some sz) (h0 : 0 ≤ q) (h1 : q ≤ r) (h2 : r ≤ ln) :
    PR P n F C (.slice t x (some y) (some z) none) (.slice (subp p c q.toNat sz) (r.toNat - q.toNat) (c - q.toNat)) := pr_slice_glh hx (lo := q.toNat) (hi := r.toNat) (by rw [hy, Int.toNat_of_nonneg h0]) (by rw [hz, Int.toNat_of_nonneg (by omega)]) hle ht hs (by omega) (by omega)
theorem pr_minI {x y : Operand} {k : IntKind} {p q : Int} {ts : Array TypeId} (hx : ev F x = some (.int k p)) (hy : ev F y = some (.int k q)) : PR P n F C (.call ⟨.builtin .min, #[x, y], ts⟩) (.int k (min p q)) := by
  rw [show min p q = (if q < p then q else p) by split <;> omega]; exact pr_min hx hy
theorem pr_maxI {x y : Operand} {k : IntKind} {p q : Int} {ts : Array TypeId} (hx : ev F x = some (.int k p)) (hy : ev F y = some (.int k q)) : PR P n F C (.call ⟨.builtin .max, #[x, y], ts⟩) (.int k (max p q)) := by
  rw [show max p q = (if p < q then q else p) by split <;> omega]; exact pr_max hx hy
theorem pr_index_owni {x y : Operand} {t : TypeId} {ln : Nat} {q : Int} {ki : IntKind} (hx : ev F x = some (.slice p ln c)) (hy : ev F y = some (.int ki q)) (hp : Pick Rs (.own f sz E p c l) Rs') (hf : Fl f sz)
    (ht : P.underlying t = some (.slice E)) (hs : sizeB P E = some sz) (hl : ln = l.length) (h0 : 0 ≤ q) (hk : q < l.length) : PR P n F (HW w0 m Rs) (.indexAddr t x y) (.pointer (some (at_ p (q.toNat * sz)))) :=
  pr_index_own hx (k := q.toNat) (by rw [hy, Int.toNat_of_nonneg h0]) hp hf ht hs hl (by omega)
theorem pr_index_memi {x y : Operand} {t E : TypeId} {ln : Nat} {q : Int} {ki : IntKind} (hx : ev F x = some (.slice p ln c)) (hy : ev F y = some (.int ki q)) (h : Sl m f sz p c l)
    (ht : P.underlying t = some (.slice E)) (hs : sizeB P E = some sz) (hl : ln = l.length) (h0 : 0 ≤ q) (hk : q < l.length) : PR P n F (HW w0 m Rs) (.indexAddr t x y) (.pointer (some (at_ p (q.toNat * sz)))) :=
  pr_index_mem hx (k := q.toNat) (by rw [hy, Int.toNat_of_nonneg h0]) h ht hs hl (by omega)
theorem pr_slice_li {x y : Operand} {t E : TypeId} {ln sz : Nat} {q : Int} {k : IntKind} (hx : ev F x = some (.slice p ln c)) (hy : ev F y = some (.int k q)) (ht : P.underlying t = some (.slice E)) (hs : sizeB P E = some sz) (h0 : 0 ≤ q) (h1 : q ≤ ln) (h2 : ln ≤ c) :
    PR P n F C (.slice t x (some y) none none) (.slice (subp p c q.toNat sz) (ln - q.toNat) (c - q.toNat)) := pr_slice_l hx (lo := q.toNat) (by rw [hy, Int.toNat_of_nonneg h0]) ht hs (by omega) h2
theorem pr_slice_hi {x z : Operand} {t E : TypeId} {ln sz : Nat} {q : Int} {k : IntKind} (hx : ev F x = some (.slice p ln c)) (hz : ev F z = some (.int k q)) (ht : P.underlying t = some (.slice E)) (hs : sizeB P E = some sz) (h0 : 0 ≤ q) (h2 : q ≤ c) :
    PR P n F C (.slice t x none (some z) none) (.slice (subp p c 0 sz) (q.toNat - 0) (c - 0)) := pr_slice_h hx (hi := q.toNat) (by rw [hz, Int.toNat_of_nonneg h0]) ht hs (by omega)
theorem pr_slice_lhi {x y z : Operand} {t E : TypeId} {ln sz : Nat} {q r : Int} {k k' : IntKind} (hx : ev F x = some (.slice p ln c)) (hy : ev F y = some (.int k q)) (hz : ev F z = some (.int k' r)) (ht : P.underlying t = some (.slice E)) (hs : sizeB P E = some sz) (h0 : 0 ≤ q) (h1 : q ≤ r) (h2 : r ≤ c) :
    PR P n F C (.slice t x (some y) (some z) none) (.slice (subp p c q.toNat sz) (r.toNat - q.toNat) (c - q.toNat)) := pr_slice_lh hx (lo := q.toNat) (hi := r.toNat) (by rw [hy, Int.toNat_of_nonneg h0]) (by rw [hz, Int.toNat_of_nonneg (by omega)]) ht hs (by omega) (by omega)
end

/-! texts -/
theorem str_eq (a b : ByteArray) : (a.toList == b.toList) = decide (a = b) := by
  rw [ByteArray.toList_eq, ByteArray.toList_eq]
  by_cases h : a = b
  · subst h; simp
  · have : ¬ a.data.toList = b.data.toList := fun e => h (by cases a; cases b; simp at e; subst e; rfl)
    rw [decide_eq_false h]
    exact beq_eq_false_iff_ne.2 this
theorem pr_seql {F : Fr} {C : World → Prop} {x y : Operand} {p q : ByteArray} {t u : TypeId} (hx : ev F x = some (.string p)) (hy : ev F y = some (.string q)) : PR P n F C (.binOp .eql t x y u) (.bool (decide (p = q))) := fun _ _ _ _ _ a w ha hC => by
  have hb : binOp .eql t (.string p) (.string q) = pure (.bool (p.toList == q.toList)) := rfl
  have hg : ∀ w, (eqGuard .eql t x y (.string p) (.string q)).run P w = .ok () w := fun _ => rfl
  simp only [execOp, ha.ev hx, ha.ev hy, hb, str_eq]
  simp [hg]
theorem pr_sneq {F : Fr} {C : World → Prop} {x y : Operand} {p q : ByteArray} {t u : TypeId} (hx : ev F x = some (.string p)) (hy : ev F y = some (.string q)) : PR P n F C (.binOp .neq t x y u) (.bool (!decide (p = q))) := fun _ _ _ _ _ a w ha hC => by
  have hb : binOp .neq t (.string p) (.string q) = pure (.bool !(p.toList == q.toList)) := rfl
  have hg : ∀ w, (eqGuard .neq t x y (.string p) (.string q)).run P w = .ok () w := fun _ => rfl
  simp only [execOp, ha.ev hx, ha.ev hy, hb, str_eq]
  simp [hg]
end
end Go.J
/- What a function hands back, where it stands in a variable of its own. -/
set_option linter.unusedSimpArgs false
set_option linter.unusedVariables false
set_option linter.unusedSectionVars false
set_option maxRecDepth 20000
namespace Go.J
open Go

def rvSem (r : ResultVar) (tmps : Array Value) : Sem Value := match r with
  | .tmp t => pure (tmps.getD t undef)
  | .cell a t => do loadVar t (← asAddr (tmps.getD a undef))
def RV (P : Program) (n : Nat) (F : Fr) (C : World → Prop) (r : ResultVar) (v : Value) : Prop := ∀ a w, HF n F a → C w → (rvSem r a.tmps).run P w = .ok v w
def RVs (P : Program) (n : Nat) (F : Fr) (C : World → Prop) : List ResultVar → List Value → Prop
  | [], [] => True
  | r :: rs, v :: vs => RV P n F C r v ∧ RVs P n F C rs vs
  | _, _ => False
def retv : List Value → Value
  | [v] => v
  | vs => .tuple vs.toArray

section
variable {P : Program} {n : Nat} {w0 : World} {F : Fr} {m : Mem} {Rs : List Res} {C : World → Prop}
theorem rv_tmp {t : Nat} {v : Value} (ht : look t F = some v) : RV P n F C (.tmp t) v := fun a w ha _ => by
  show (Pure.pure (a.tmps.getD t undef) : Sem Value).run P w = _
  rw [ha.val t v ht]; rfl
theorem rv_cellN {x b k : Nat} {t E : TypeId} {cs vs : List Value} {Rs' : List Res} (hx : look x F = some (.pointer (some ⟨b, 0, none⟩))) (hp : Pick Rs (.blk b E cs) Rs') (ht : isAggB P t = some true) (hs : sizeB P t = some k) (hv : subl cs 0 k = some vs) : RV P n F (HW w0 m Rs) (.cell x t) (.agg vs.toArray) := fun a w ha hC => by
  have hl := subl_length cs 0 k vs hv
  show ((do loadVar t (← asAddr (a.tmps.getD x undef))) : Sem Value).run P w = _
  rw [ha.val x _ hx]
  have e0 : (asAddr (.pointer (some ⟨b, 0, none⟩)) : Sem Addr).run P w = .ok ⟨b, 0, none⟩ w := rfl
  simp only [Sem.run_bind, e0, Result.andThen]
  exact run_loadVarN ht (by rw [hl]; exact hs) (fun j hj => by
    rw [World.cell_of (hC.blk hp), ← subl_get cs 0 k vs hv j (by omega)]
    simp)
theorem rv_cell1 {x b : Nat} {t E : TypeId} {cs : List Value} {v : Value} {Rs' : List Res} (hx : look x F = some (.pointer (some ⟨b, 0, none⟩))) (hp : Pick Rs (.blk b E cs) Rs') (ht : isAggB P t = some false) (hv : nthl cs 0 = some v) : RV P n F (HW w0 m Rs) (.cell x t) v := fun a w ha hC => by
  show ((do loadVar t (← asAddr (a.tmps.getD x undef))) : Sem Value).run P w = _
  rw [ha.val x _ hx]
  have e0 : (asAddr (.pointer (some ⟨b, 0, none⟩)) : Sem Addr).run P w = .ok ⟨b, 0, none⟩ w := rfl
  simp only [Sem.run_bind, e0, Result.andThen]
  exact run_loadVar1 ht (by rw [World.cell_of (hC.blk hp)]; rw [nthl_eq] at hv; simpa using hv)

theorem RVs.nil : RVs P n F C [] [] := trivial
theorem RVs.cons {r : ResultVar} {v : Value} {rs : List ResultVar} {vs : List Value} (h : RV P n F C r v) (h' : RVs P n F C rs vs) : RVs P n F C (r :: rs) (v :: vs) := ⟨h, h'⟩
theorem run_rvs {a : Act} {w : World} (ha : HF n F a) (hC : C w) : ∀ (rs : List ResultVar) (vs : List Value), RVs P n F C rs vs → (rs.mapM fun r => rvSem r a.tmps).run P w = .ok vs w
  | [], [], _ => rfl
  | r :: rs, v :: vs, ⟨h1, h2⟩ => by
    simp [List.mapM_cons, h1 a w ha hC, run_rvs ha hC rs vs h2]
  | [], _ :: _, h => h.elim
  | _ :: _, [], h => h.elim

theorem At.retV {fn : Func} {R : Value → Mem → List Res → Prop} {m0 : Mem} {Rest B : List Res} {rs : List ResultVar} {vs : List Value} (hr : fn.results = rs.toArray) (hrs : RVs P n F (HW w0 m Rs) rs vs) (hm : m0.le m) (hB : Keep B Rs Rest) (hR : R (retv vs) m B) :
    At n w0 F m Rs (bodyPost P fn (fun e w' => ∃ v m' B, e = .returned v ∧ m0.le m' ∧ R v m' B ∧ HW w0 m' (B ++ Rest) w') .ret) := fun a w ha hw => by
  refine ⟨ha.dfr, retv vs, ?_, _, m, B, rfl, hm, hR, hw.ent hB.ent⟩
  have h := run_rvs ha hw rs vs hrs
  have e : results fn a.tmps = (do let vs ← rs.toArray.mapM fun r => rvSem r a.tmps; Pure.pure (if h : vs.size = 1 then vs[0] else .tuple vs)) := by
    unfold results
    rw [hr]
    rfl
  rw [e]
  have h2 : (rs.toArray.mapM fun r => rvSem r a.tmps).run P w = .ok vs.toArray w := by
    rw [Array.mapM_eq_mapM_toList]
    simp [h]
  simp only [Sem.run_bind, h2, Result.andThen]
  cases vs with
  | nil => rfl
  | cons v vs => cases vs with
    | nil => rfl
    | cons v2 vs => simp [retv]
end
end Go.J
/- Frames cut down to what is read on; loops and meeting places by that; texts; structs held against one another; bits; functions as values. -/
set_option linter.unusedSimpArgs false
set_option linter.unusedVariables false
set_option linter.unusedSectionVars false
set_option maxRecDepth 20000
namespace Go.J
open Go

def keepL : List Nat → Fr → Option Fr
  | [], _ => some []
  | t :: ts, F => match look t F with
    | some v => match keepL ts F with
      | some r => some ((t, v) :: r)
      | none => none
    | none => keepL ts F
def str (l : List UInt8) : ByteArray := ⟨l.toArray⟩
theorem str_of (b : ByteArray) : ∃ l, b = str l := ⟨b.data.toList, by cases b; simp [str]⟩
theorem str_inj {a b : List UInt8} : str a = str b ↔ a = b := by
  constructor
  · intro h
    have := congrArg (fun x => x.data.toList) h
    simpa [str] using this
  · rintro rfl; rfl
theorem str_size (l : List UInt8) : (str l).size = l.length := by simp [str, ByteArray.size]
theorem str_toList (l : List UInt8) : (str l).data.toList = l := by simp [str]
def u8 (n : Int) : UInt8 := UInt8.ofNat n.toNat
def bI (b : UInt8) : Int := (b.toNat : Int)
theorem bI_bd (b : UInt8) : 0 ≤ bI b ∧ bI b < 256 := by
  have := b.toNat_lt
  unfold bI; omega
theorem u8_bI (b : UInt8) : u8 (bI b) = b := by simp [u8, bI]
theorem bI_u8 {n : Int} (h0 : 0 ≤ n) (h1 : n < 256) : bI (u8 n) = n := by
  unfold bI u8
  rw [UInt8.toNat_ofNat_of_lt' (by show n.toNat < 256; omega)]
  omega
theorem u8_map (l : List UInt8) : (l.map bI).map u8 = l := by
  rw [List.map_map]
  conv => rhs; rw [← List.map_id l]
  apply List.map_congr_left
  intro b _
  exact u8_bI b
abbrev fb (n : Int) : List Value := [.int .u8 n]
instance : Fl fb 1 := ⟨fun _ => rfl, fun x v h => by simp at h; subst h; rfl, by decide⟩

section
variable {P : Program} {n : Nat} {w0 : World} {F : Fr} {m : Mem} {Rs : List Res} {Q : Exit → Act → World → Prop} {K : Act → World → Prop} {C : World → Prop}

theorem At.loopk {c : Code} {σ : Type} {F0 : Fr} (L : List Nat) (upd : σ → Fr → Fr) (mx : σ → Mem) (Rx : σ → List Res) (I : σ → Prop) (μ : σ → Nat) (s0 : σ) (e0 : keepL L F = some F0) (h0 : I s0) (hF : Subs (upd s0 F0) F) (hm : (mx s0).le m) (hR : Ent Rs (Rx s0))
    (round : ∀ s, I s → At n w0 (upd s F0) (mx s) (Rx s) (c.wp P (Exit.then (fun a w => ∃ s', (I s' ∧ μ s' < μ s) ∧ HF n (upd s' F0) a ∧ HW w0 (mx s') (Rx s') w) Q))) :
    At n w0 F m Rs ((Code.loop c).wp P Q) := by
  have _ := e0
  exact At.loop (fun s => upd s F0) mx Rx I μ s0 h0 hF hm hR round
/-- where the ways of an 'if' meet -/
theorem At.cutk {t : Nat} {x1 x2 : Code} {b : Bool} {σ : Type} {F0 : Fr} (L : List Nat) (upd : σ → Fr → Fr) (mx : σ → Mem) (Rx : σ → List Res) (I : σ → Prop) (e0 : keepL L F = some F0) (hc : look t F = some (.bool b))
    (hb : (b = true → At n w0 F m Rs (x1.wp P (Exit.then (fun a w => ∃ s, I s ∧ HF n (upd s F0) a ∧ HW w0 (mx s) (Rx s) w) Q))) ∧
      (b = false → At n w0 F m Rs (x2.wp P (Exit.then (fun a w => ∃ s, I s ∧ HF n (upd s F0) a ∧ HW w0 (mx s) (Rx s) w) Q))))
    (hy : ∀ s, I s → At n w0 (upd s F0) (mx s) (Rx s) K) : At n w0 F m Rs ((Code.cond (.tmp t) x1 x2).wp P (Exit.then K Q)) := by
  have _ := e0
  refine fun a w ha hw => Code.wp_mono (fun e a' w' q => ?_) (At.cond (c := .tmp t) hc hb.1 hb.2 a w ha hw)
  cases e <;> first | exact q | (obtain ⟨s, hI, h1, h2⟩ := q; exact hy s hI a' w' h1 h2)
/-- where the ways out of a block meet -/
theorem At.cutb {id : Nat} {x : Code} {σ : Type} {F0 : Fr} (L : List Nat) (upd : σ → Fr → Fr) (mx : σ → Mem) (Rx : σ → List Res) (I : σ → Prop) (e0 : keepL L F = some F0)
    (hx : At n w0 F m Rs (x.wp P (Exit.inBlock id (Exit.then (fun a w => ∃ s, I s ∧ HF n (upd s F0) a ∧ HW w0 (mx s) (Rx s) w) Q))))
    (hy : ∀ s, I s → At n w0 (upd s F0) (mx s) (Rx s) K) : At n w0 F m Rs ((Code.block id x).wp P (Exit.then K Q)) := by
  have _ := e0
  refine fun a w ha hw => Code.wp_mono (fun e a' w' q => ?_) (At.block hx a w ha hw)
  cases e <;> first | exact q | (obtain ⟨s, hI, h1, h2⟩ := q; exact hy s hI a' w' h1 h2)
theorem At.idd (h : At n w0 F m Rs K) : At n w0 F m Rs K := h
theorem AtQ.idd {ops : Array Oper} {rest : List Oper} {Qq : Act → Prop} (h : AtQ P n F C ops Qq rest) : AtQ P n F C ops Qq rest := h
theorem AtM.idd {X : List Res} {l : List Oper} {f : Nat} {s : Array Bool} {p : Plan} (h : AtM P n w0 F m Rs X K l f s p) : AtM P n w0 F m Rs X K l f s p := h
/-- less is known from here on -/
theorem At.trim {F0 : Fr} (L : List Nat) (e0 : keepL L F = some F0) (hF : Subs F0 F) (h : At n w0 F0 m Rs K) : At n w0 F m Rs K := by
  have _ := e0
  exact At.frame hF h
/-- a round's end -/
theorem At.reachk {σ : Type} {Fx : σ → Fr} {mx : σ → Mem} {Rx : σ → List Res} {I : σ → Prop} (s : σ) (hF : Subs (Fx s) F) (hm : (mx s).le m) (hR : Ent Rs (Rx s)) (hI : I s) :
    At n w0 F m Rs (fun a w => ∃ s, I s ∧ HF n (Fx s) a ∧ HW w0 (mx s) (Rx s) w) := At.reach s hI hF hm hR

theorem Rdb.subl {α : Type} [Inhabited α] {f : α → List Value} {sz : Nat} {p : Option Addr} {c : Nat} {l : List α} (h : Rdb C f sz p c l) (lo : Nat) (h1 : lo ≤ l.length) : Rdb C f sz (subp p c lo sz) (c - lo) (l.drop lo) := by
  have := Rdb.sub h lo l.length h1 (Nat.le_refl _)
  rwa [List.take_length] at this
theorem Rdb.subh {α : Type} [Inhabited α] {f : α → List Value} {sz : Nat} {p : Option Addr} {c : Nat} {l : List α} (h : Rdb C f sz p c l) (hi : Nat) (h1 : hi ≤ l.length) : Rdb C f sz (subp p c 0 sz) (c - 0) (l.take hi) := by
  have := Rdb.sub h 0 hi (Nat.zero_le _) h1
  rwa [List.drop_zero] at this
theorem Sl.subl {α : Type} [Inhabited α] {f : α → List Value} {sz : Nat} {p : Option Addr} {c : Nat} {l : List α} (h : Sl m f sz p c l) (lo : Nat) (h1 : lo ≤ l.length) : Sl m f sz (subp p c lo sz) (c - lo) (l.drop lo) := by
  have := Sl.sub h h1 (Nat.le_refl _)
  rwa [List.take_length] at this
theorem Sl.subh {α : Type} [Inhabited α] {f : α → List Value} {sz : Nat} {p : Option Addr} {c : Nat} {l : List α} (h : Sl m f sz p c l) (hi : Nat) (h1 : hi ≤ l.length) : Sl m f sz (subp p c 0 sz) (c - 0) (l.take hi) := by
  have := Sl.sub h (Nat.zero_le _) h1
  rwa [List.drop_zero] at this

theorem pr_load_ownfN {α : Type} [Inhabited α] {f : α → List Value} {sz : Nat} {E : TypeId} {p : Option Addr} {c : Nat} {l : List α} {Rs' : List Res} {x : Operand} {t : TypeId} {k j q : Nat} {vs : List Value} (hx : ev F x = some (.pointer (some (at_ p (k * sz + j))))) (hp : Pick Rs (.own f sz E p c l) Rs') (hf : Fl f sz) (hk : k < l.length) (hj : Nat.ble (j + q) sz = true) (ht : isAggB P t = some true) (hs : sizeB P t = some q)
    (hv : subl (f l[k]!) j q = some vs) : PR P n F (HW w0 m Rs) (.load t x) (.agg vs.toArray) := pr_load_slfN (own_rdb hf hp) hk hj ht hs hx hv
theorem pr_load_memefN {α : Type} [Inhabited α] {f : α → List Value} {sz : Nat} {p : Option Addr} {c : Nat} {l : List α} {x : Operand} {t : TypeId} {k j q : Nat} {vs : List Value} (hx : ev F x = some (.pointer (some (at_ p (k * sz + j))))) (h : Sl m f sz p c l) (hk : k < l.length) (hj : Nat.ble (j + q) sz = true) (ht : isAggB P t = some true) (hs : sizeB P t = some q)
    (hv : subl (f l[k]!) j q = some vs) : PR P n F (HW w0 m Rs) (.load t x) (.agg vs.toArray) := pr_load_slfN h.rdb hk hj ht hs hx hv

theorem look_int {t : Nat} {F : Fr} {k : IntKind} {a b : Int} (h : look t F = some (.int k a)) (e : a = b) : look t F = some (.int k b) := e ▸ h

/-! ### texts -/
theorem pr_len_str {x : Operand} {t : TypeId} {l : List UInt8} (ht : P.underlying t = some .string) (hx : ev F x = some (.string (str l))) : PR P n F C (.call ⟨.builtin .len, #[x], #[t]⟩) (.int .i64 (l.length : Int)) := by
  have := pr_len_st (n := n) (C := C) ht hx
  rwa [str_size] at this
theorem pr_streq {x y : Operand} {p q : List UInt8} {t u : TypeId} (hx : ev F x = some (.string (str p))) (hy : ev F y = some (.string (str q))) : PR P n F C (.binOp .eql t x y u) (.bool (decide (p = q))) := by
  have := pr_seql (P := P) (n := n) (C := C) (t := t) (u := u) hx hy
  rwa [show decide (str p = str q) = decide (p = q) by simp [str_inj]] at this
theorem pr_strne {x y : Operand} {p q : List UInt8} {t u : TypeId} (hx : ev F x = some (.string (str p))) (hy : ev F y = some (.string (str q))) : PR P n F C (.binOp .neq t x y u) (.bool (!decide (p = q))) := by
  have := pr_sneq (P := P) (n := n) (C := C) (t := t) (u := u) hx hy
  rwa [show decide (str p = str q) = decide (p = q) by simp [str_inj]] at this
theorem str_append (p q : List UInt8) : str p ++ str q = str (p ++ q) := ByteArray.mk_append_mk p q
theorem pr_stradd {x y : Operand} {p q : List UInt8} {t u : TypeId} (hx : ev F x = some (.string (str p))) (hy : ev F y = some (.string (str q))) (hl : p.length + q.length ≤ 9223372036854775807) : PR P n F C (.binOp .add t x y u) (.string (str (p ++ q))) := fun _ _ _ _ _ a w ha _ => by
  have hg : ∀ w, (eqGuard .add t x y (.string (str p)) (.string (str q))).run P w = .ok () w := fun _ => rfl
  have hb : binOp .add t (.string (str p)) (.string (str q)) = Op.stringOp .add (str p) (str q) := rfl
  simp only [execOp, ha.ev hx, ha.ev hy, hb, Sem.run_bind, hg, Result.andThen]
  rw [run_string_add_sum w _ _ (by rw [str_size, str_size]; exact hl), str_append]
  rfl
theorem str_getElem (l : List UInt8) (i : Nat) (h : i < l.length) : (str l)[i]? = some l[i]! := by
  have h' : i < (str l).size := by rw [str_size]; exact h
  rw [ByteArray.getElem?_lt' _ _ h', getElem!_pos l i h]
  congr 1
theorem pr_strindex {x y : Operand} {t : TypeId} {l : List UInt8} {k : IntKind} {q : Int} (ht : P.underlying t = some .string) (hx : ev F x = some (.string (str l))) (hy : ev F y = some (.int k q)) (h0 : 0 ≤ q) (h1 : q < l.length) :
    PR P n F C (.index t x y) (.int .u8 (bI l[q.toNat]!)) := fun _ _ _ _ _ a w ha _ => by
  simp only [execOp, ha.ev hx, ha.ev hy, Sem.run_bind]
  have : (Instr.index t (.string (str l)) (.int k q)).run P w = .ok (.int .u8 (bI l[q.toNat]!)) w := by
    unfold Instr.index
    have hr : (underlying t).run P w = .ok .string w := run_underlying ht w
    simp only [asIntOf, pure, Sem.run_bind, Sem.run, Result.andThen, hr, h0, if_true]
    rw [str_getElem l _ (by omega)]
    rfl
  rw [this]
  rfl
theorem str_extract (l : List UInt8) (a b : Nat) : (str l).extract a b = str ((l.take b).drop a) := by
  have := ByteArray.extract_mk l a b
  show (ByteArray.mk l.toArray).extract a b = _
  rw [this, List.drop_take]
  rfl
theorem run_slice_str {t : TypeId} (ht : P.underlying t = some .string) (l : List UInt8) (lo hi : Nat) (h1 : lo ≤ hi) (h2 : hi ≤ l.length) (vl vh : Option Value)
    (hl : (vl = none ∧ lo = 0) ∨ ∃ k, vl = some (.int k (lo : Int))) (hh : (vh = none ∧ hi = l.length) ∨ ∃ k, vh = some (.int k (hi : Int))) (w : World) :
    (Instr.sliceAt t (.string (str l)) vl vh none).run P w = .ok (.string (str ((l.take hi).drop lo))) w := by
  have hr : ∀ w, (underlying t).run P w = .ok .string w := run_underlying ht
  unfold Instr.sliceAt
  simp only [Sem.run_bind, hr, Result.andThen]
  unfold Instr.slice
  simp only [Sem.run_bind, hr, Result.andThen]
  have hb : (Instr.sliceBounds false (str l).size (str l).size vl vh none).run P w = .ok (lo, hi, (str l).size) w := by
    rw [str_size]
    unfold Instr.sliceBounds Instr.sliceBound
    rcases hl with ⟨rfl, rfl⟩ | ⟨k, rfl⟩ <;> rcases hh with ⟨rfl, rfl⟩ | ⟨k', rfl⟩ <;>
      simp [asIntOf, pure, Sem.run, bind, Sem.bind, h1, h2]
  simp [hb, str_extract, Sem.run]
theorem pr_strslice {x : Operand} {t : TypeId} {l : List UInt8} (lo hi : Nat) (vl vh : Option Operand) (ht : P.underlying t = some .string) (hx : ev F x = some (.string (str l)))
    (hl : (vl = none ∧ lo = 0) ∨ ∃ y k, vl = some y ∧ ev F y = some (.int k (lo : Int))) (hh : (vh = none ∧ hi = l.length) ∨ ∃ y k, vh = some y ∧ ev F y = some (.int k (hi : Int))) (h1 : lo ≤ hi) (h2 : hi ≤ l.length) :
    PR P n F C (.slice t x vl vh none) (.string (str ((l.take hi).drop lo))) := fun _ _ _ _ _ a w ha _ => by
  simp only [execOp, ha.ev hx, Sem.run_bind, Option.map_none]
  rw [run_slice_str ht l lo hi h1 h2 (vl.map a.eval) (vh.map a.eval) ?_ ?_ w]
  · rfl
  · rcases hl with ⟨rfl, rfl⟩ | ⟨y, k, rfl, hy⟩
    · exact .inl ⟨rfl, rfl⟩
    · exact .inr ⟨k, by simp [ha.ev hy]⟩
  · rcases hh with ⟨rfl, rfl⟩ | ⟨y, k, rfl, hy⟩
    · exact .inl ⟨rfl, rfl⟩
    · exact .inr ⟨k, by simp [ha.ev hy]⟩
theorem pr_str_l {x y : Operand} {t : TypeId} {l : List UInt8} {k : IntKind} {q : Int} (ht : P.underlying t = some .string) (hx : ev F x = some (.string (str l))) (hy : ev F y = some (.int k q)) (h0 : 0 ≤ q) (h1 : q ≤ l.length) :
    PR P n F C (.slice t x (some y) none none) (.string (str (l.drop q.toNat))) := by
  have := pr_strslice (P := P) (n := n) (C := C) q.toNat l.length (some y) none ht hx (.inr ⟨y, k, rfl, by rw [hy, Int.toNat_of_nonneg h0]⟩) (.inl ⟨rfl, rfl⟩) (by omega) (Nat.le_refl _)
  rwa [List.take_length] at this
theorem pr_str_h {x z : Operand} {t : TypeId} {l : List UInt8} {k : IntKind} {q : Int} (ht : P.underlying t = some .string) (hx : ev F x = some (.string (str l))) (hz : ev F z = some (.int k q)) (h0 : 0 ≤ q) (h1 : q ≤ l.length) :
    PR P n F C (.slice t x none (some z) none) (.string (str (l.take q.toNat))) := by
  have := pr_strslice (P := P) (n := n) (C := C) 0 q.toNat none (some z) ht hx (.inl ⟨rfl, rfl⟩) (.inr ⟨z, k, rfl, by rw [hz, Int.toNat_of_nonneg h0]⟩) (Nat.zero_le _) (by omega)
  rwa [List.drop_zero] at this
theorem pr_str_lh {x y z : Operand} {t : TypeId} {l : List UInt8} {k k' : IntKind} {q r : Int} (ht : P.underlying t = some .string) (hx : ev F x = some (.string (str l))) (hy : ev F y = some (.int k q)) (hz : ev F z = some (.int k' r)) (h0 : 0 ≤ q) (h1 : q ≤ r) (h2 : r ≤ l.length) :
    PR P n F C (.slice t x (some y) (some z) none) (.string (str ((l.take r.toNat).drop q.toNat))) :=
  pr_strslice (P := P) (n := n) (C := C) q.toNat r.toNat (some y) (some z) ht hx (.inr ⟨y, k, rfl, by rw [hy, Int.toNat_of_nonneg h0]⟩) (.inr ⟨z, k', rfl, by rw [hz, Int.toNat_of_nonneg (by omega)]⟩) (by omega) (by omega)

theorem foldl_push_str (l : List Int) : l.foldl (fun (r : ByteArray) (n : Int) => r.push (UInt8.ofNat n.toNat)) ByteArray.empty = str (l.map u8) := by
  have : ∀ (l : List Int) (r : List UInt8), l.foldl (fun (r : ByteArray) (n : Int) => r.push (UInt8.ofNat n.toNat)) (str r) = str (r ++ l.map u8) := by
    intro l
    induction l with
    | nil => intro r; simp
    | cons x l ih =>
      intro r
      rw [List.foldl_cons, show (str r).push (UInt8.ofNat x.toNat) = str (r ++ [u8 x]) by simp [str, ByteArray.push, u8], ih]
      simp
  exact (this l []).trans (by simp)
/-- bytes as a text -/
theorem pr_bytes_str {x : Operand} {s d e : TypeId} {p : Option Addr} {ln c : Nat} {l : List Int} (hs : P.underlying s = some (.slice e)) (he : P.underlying e = some (.int .u8)) (hd : P.underlying d = some .string)
    (hx : ev F x = some (.slice p ln c)) (h : Rdb C fb 1 p c l) (hln : ln = l.length) : PR P n F C (.convert s d x) (.string (str (l.map u8))) := fun _ _ _ _ _ a w ha hC => by
  subst hln
  simp only [execOp, ha.ev hx, Sem.run_bind]
  rw [run_convert_bytes_string w s d e p l.length c hs he hd]
  by_cases hl : l = []
  · subst hl
    cases p with
    | none => rfl
    | some a => rfl
  · obtain ⟨b, o, rfl⟩ := h.some w hC hl
    have hlc : (loadCells ⟨b, o, none⟩ (l.map (Value.int .u8)).length).run P w = .ok (l.map (Value.int .u8)).toArray w := run_loadCells w b o _ fun j hj => by
      have hj' : j < l.length := by simpa using hj
      have := h.cell w hC j 0 hj' (by decide)
      simp only [Nat.mul_one, Nat.add_zero, at_some] at this
      rw [this]
      simp [fb, hj']
    rw [List.length_map] at hlc
    rw [run_bytesToString w ⟨b, o, none⟩ l.length c l hlc, foldl_push_str]
    rfl
/-- a new block that is never written again -/
theorem HW.addmem {w w' : World} (h : HW w0 m Rs w) (ho : w'.os = w.os) (ht : w'.tape = w.tape) (hu : w'.output = w.output) (o : Obj) (hsz : w.heap.size ≤ w'.heap.size) (hold : ∀ k, k < w.heap.size → w'.heap[k]? = w.heap[k]?)
    (hnew : w'.heap[w.heap.size]? = some o) : m.le (fun k => if k = w.heap.size then some o else m k) ∧ HW w0 (fun k => if k = w.heap.size then some o else m k) Rs w' := by
  obtain ⟨s, hs, hm⟩ := h.res
  have hlt : ∀ k x, m k = some x → k < w.heap.size := fun k x hk => (Array.getElem?_eq_some_iff.1 (h.mem k x hk)).1
  refine ⟨fun k x hk => ?_, ho.trans h.os, ht.trans h.tape, hu.trans h.output, Nat.le_trans h.size hsz, fun k x hk => ?_, s, Sat.loc hs (fun k hk => hold k (Sat.dom hs hk)), fun k hk => ?_⟩
  · show (if k = w.heap.size then _ else _) = _
    rw [if_neg (fun e => by have := hlt k x hk; omega)]; exact hk
  · by_cases e : k = w.heap.size
    · subst e
      simp only [if_true] at hk
      rw [← hk]; exact hnew
    · simp only [if_neg e] at hk
      rw [hold k (hlt k x hk)]; exact h.mem k x hk
  · show (if k = w.heap.size then _ else _) = _
    rw [if_neg (fun e => by have := Sat.dom hs hk; omega)]; exact hm k hk
theorem bytesRow_str (l : List UInt8) (c : Nat) : bytesRow (str l) c = (l.map (fun b => Value.int .u8 (bI b))).toArray ++ Array.replicate (c - l.length) (.int .u8 0) := by
  unfold bytesRow
  rw [str_size]
  congr 1
  simp [str, bI]
/-- a text's bytes, in memory that stays -/
theorem At.str_bytes {ops : Array Oper} {rest : List Oper} {d : Nat} {x : Operand} {s t e : TypeId} {ty : TypeId} {pos : String} {aft : Array Edge} {l : List UInt8}
    (hs : P.underlying s = some .string) (ht : P.underlying t = some (.slice e)) (he : P.underlying e = some (.int .u8)) (hx : ev F x = some (.string (str l))) (hl : l.length ≤ 34359738368) (hd : Nat.blt d n = true)
    (h : ∀ p c m', m.le m' → Sl m' fb 1 p c (l.map bI) → At n w0 ((d, .slice p (l.map bI).length c) :: F) m' Rs (wpList P ops Q rest)) : At n w0 F m Rs (wpList P ops Q (⟨some d, .convert s t x, ty, pos, aft, none⟩ :: rest)) := fun a w ha hw =>
  wpList_plain rfl fun K hK => by
    have hrun := run_bytes_of_string (P := P) w s t e (str l) hs ht he
    have hge := grownCap_ge w (str l).size 0 e
    have hle := grownCap_le_maxLen w (str l).size 0 e (by rw [str_size]; simp only [maxLen]; omega)
    generalize grownCap w (str l).size 0 e = c at hrun hge hle
    rw [str_size] at hrun hge
    have hsize : (bytesRow (str l) c).size = c := by rw [bytesRow_str]; simp; omega
    unfold Oper.wp
    have hex : (execOp a.eval ⟨some d, .convert s t x, ty, pos, aft, none⟩).run P w = .ok (.value (.slice (some ⟨w.heap.size, 0, none⟩) l.length c)) (w.drew.alloc (.cells (bytesRow (str l) c) e ((bytesRow (str l) c).size, (bytesRow (str l) c).size + 1))) := by
      simp only [execOp, ha.ev hx, Sem.run_bind, hrun, Result.andThen]
      rfl
    rw [hex]
    obtain ⟨h1, h2⟩ := hw.addmem (w' := w.drew.alloc (.cells (bytesRow (str l) c) e ((bytesRow (str l) c).size, (bytesRow (str l) c).size + 1))) rfl rfl rfl (.cells (bytesRow (str l) c) e ((bytesRow (str l) c).size, (bytesRow (str l) c).size + 1))
      (by show w.heap.size ≤ (w.heap.push _).size; simp) (fun k hk => by show (w.heap.push _)[k]? = _; rw [Array.getElem?_push, if_neg (by omega)]) (by show (w.heap.push _)[w.heap.size]? = _; simp)
    refine hK _ _ (h (some ⟨w.heap.size, 0, none⟩) c _ h1 ⟨inferInstance, by simpa using hge, hle, (fun e => by cases e), fun a' ha' _ => ?_⟩ _ _ (by rw [List.length_map]; exact ha.put hd) h2)
    cases ha'
    refine ⟨rfl, _, _, _, if_pos rfl, by rw [hsize]; show 0 + c * 1 ≤ c; omega, fun i j hi hj => ?_⟩
    have hi' : i < l.length := by simpa using hi
    have hj0 : j = 0 := by omega
    subst hj0
    rw [bytesRow_str]
    rw [Array.getElem?_append_left (by simp; omega)]
    simp [hi', fb]

/-! ### structs held against one another -/
def andL : List Bool → Bool
  | [] => true
  | [b] => b
  | b :: c :: r => b && andL (c :: r)
theorem andL_nil : andL [] = true := rfl
theorem andL_cons (b : Bool) (r : List Bool) : andL (b :: r) = (b && andL r) := by
  cases r with
  | nil => simp [andL]
  | cons c r => rfl
theorem andL_append (a b : List Bool) : andL (a ++ b) = (andL a && andL b) := by
  induction a with
  | nil => simp [andL]
  | cons x a ih => rw [List.cons_append, andL_cons, andL_cons, ih, Bool.and_assoc]
def eqF (P : Program) (eqT : TypeId → List Value → List Value → Option (List Bool)) (xs ys : List Value) : List Field → Option (List Bool)
  | [] => some []
  | f :: fs => match f.name == "_" with
    | true => none
    | false => match P.info? f.type with
      | some i => match subl xs f.offset i.size with
        | some a => match subl ys f.offset i.size with
          | some b => match eqT f.type a b with
            | some r => match eqF P eqT xs ys fs with
              | some q => some (r ++ q)
              | none => none
            | none => none
          | none => none
        | none => none
      | none => none
def eqT (P : Program) : Nat → TypeId → List Value → List Value → Option (List Bool)
  | 0, _, _, _ => none
  | d + 1, t, xs, ys => match P.underlying t with
    | some (.struct fs) => match P.stoodInHeld t with
      | true => none
      | false => eqF P (eqT P d) xs ys fs.toList
    | some .bool => match xs, ys with
      | [.bool a], [.bool b] => some [a == b]
      | _, _ => none
    | some .string => match xs, ys with
      | [.string a], [.string b] => some [decide (a = b)]
      | _, _ => none
    | some (.int _) => match xs, ys with
      | [.int k a], [.int k' b] => match decide (k = k') with
        | true => some [decide (a = b)]
        | false => none
      | _, _ => none
    | _ => none
def eqN (P : Program) (t : TypeId) (xs ys : List Value) : Option (List Bool) := match eqT P 6 t xs ys with
  | some l => flat l
  | none => none

theorem run_part {t : TypeId} {b : Bool} (hb : isAggB P t = some b) {i : TypeInfo} (hi : P.info? t = some i) {xs a : List Value} {off : Nat} (hs : subl xs off i.size = some a) (v : Value) (hv : b = false → a = [v]) (w : World) :
    (part t xs.toArray off).run P w = .ok (if b then .agg a.toArray else v) w := by
  have hl := subl_length _ _ _ _ hs
  have hg := subl_get _ _ _ _ hs
  unfold part
  simp only [Sem.run_bind, run_isAgg hb, Result.andThen]
  cases b with
  | false =>
    have := hv rfl
    subst this
    simp only [List.length_singleton] at hl
    have h0 := hg 0 (by omega)
    simp only [Nat.add_zero, List.getElem?_cons_zero] at h0
    simp [h0, Sem.run]
  | true =>
    have hz : (sizeOf t).run P w = .ok i.size w := run_sizeOf (by simp [sizeB, hi]) w
    simp only [if_true, Sem.run_bind, hz, Result.andThen]
    have : xs.toArray.extract off (off + i.size) = a.toArray := by
      apply Array.ext_getElem?
      intro j
      rw [Array.getElem?_extract]
      by_cases hj : j < i.size
      · have := hg j hj
        rw [List.getElem?_toArray, List.getElem?_toArray, this]
        have : off + j < xs.length := by
          have h1 : a[j]? = some a[j] := List.getElem?_eq_getElem (by omega)
          rw [h1] at this
          exact (List.getElem?_eq_some_iff.1 this).1
        rw [if_pos (by simp; omega)]
      · rw [if_neg (by simp; omega), List.getElem?_toArray, List.getElem?_eq_none (by omega)]
    rw [this]; rfl

theorem eqT_run : ∀ (d e : Nat) (t : TypeId) (xs ys : List Value) (r : List Bool) (w : World), eqT P d t xs ys = some r →
    (isAggB P t = some true ∧ (Op.equalIn (d + e) t (.agg xs.toArray) (.agg ys.toArray)).run P w = .ok (andL r) w) ∨
    (isAggB P t = some false ∧ ∃ x y, xs = [x] ∧ ys = [y] ∧ (Op.equalIn (d + e) t x y).run P w = .ok (andL r) w)
  | 0, _, _, _, _, _, _, h => by cases h
  | d + 1, e, t, xs, ys, r, w, h => by
    have ih := eqT_run d e
    rw [show d + 1 + e = (d + e) + 1 by omega]
    unfold eqT at h
    cases hu : P.underlying t with
    | none => rw [hu] at h; cases h
    | some u =>
      rw [hu] at h
      cases u <;> simp only at h <;> try (cases h; done)
      case bool =>
        split at h
        · rename_i a b
          cases h
          refine .inr ⟨by simp [isAggB, hu], _, _, rfl, rfl, ?_⟩
          simp [Op.equalIn, run_underlying hu, andL]
        · cases h
      case string =>
        split at h
        · rename_i a b
          cases h
          refine .inr ⟨by simp [isAggB, hu], _, _, rfl, rfl, ?_⟩
          have : (a == b) = decide (a = b) := by rw [beq_toListBytes, str_eq]
          simp [Op.equalIn, run_underlying hu, andL, this]
        · cases h
      case int kk =>
        split at h
        · rename_i k a k' b
          by_cases hk : k = k'
          · subst hk
            simp only [decide_true] at h
            cases h
            refine .inr ⟨by simp [isAggB, hu], _, _, rfl, rfl, ?_⟩
            have : (a == b) = decide (a = b) := rfl
            simp [Op.equalIn, run_underlying hu, andL, this]
          · simp only [decide_eq_false hk] at h
            cases h
        · cases h
      case struct fs =>
        cases hp : P.stoodInHeld t with
        | true => rw [hp] at h; cases h
        | false =>
          rw [hp] at h
          simp only at h
          refine .inl ⟨by simp [isAggB, hu], ?_⟩
          have hfo : P.fieldsOf t = fs := by simp [Program.fieldsOf, hu]
          rw [run_equalIn_struct w (d + e) t _ _ (by rw [hfo]; exact hu) hp, hfo]
          generalize fs.toList = l at h
          clear hfo hu
          induction l generalizing r with
          | nil => cases h; rfl
          | cons f l ihl =>
            unfold eqF at h
            cases hn : f.name == "_" with
            | true => rw [hn] at h; cases h
            | false =>
              rw [hn] at h
              simp only at h
              have hn' : f.name ≠ "_" := by simpa using hn
              cases hi : P.info? f.type with
              | none => rw [hi] at h; cases h
              | some i =>
                rw [hi] at h
                simp only at h
                cases h1 : subl xs f.offset i.size with
                | none => rw [h1] at h; cases h
                | some a =>
                  cases h2 : subl ys f.offset i.size with
                  | none => rw [h1, h2] at h; cases h
                  | some b =>
                    rw [h1, h2] at h
                    simp only at h
                    cases h3 : eqT P d f.type a b with
                    | none => rw [h3] at h; cases h
                    | some q =>
                      rw [h3] at h
                      simp only at h
                      cases h4 : eqF P (eqT P d) xs ys l with
                      | none => rw [h4] at h; cases h
                      | some q2 =>
                        rw [h4] at h
                        cases h
                        have hr := ihl q2 h4
                        unfold Op.eqFields
                        rw [if_pos hn', andL_append]
                        rcases ih f.type a b q w h3 with ⟨hb, hq⟩ | ⟨hb, x, y, rfl, rfl, hq⟩
                        · have p1 := run_part hb hi h1 undef (fun e => by cases e) w
                          have p2 := run_part hb hi h2 undef (fun e => by cases e) w
                          simp only [if_true] at p1 p2
                          simp only [Sem.run_bind, p1, p2, hq, Result.andThen]
                          cases andL q with
                          | true => simpa using hr
                          | false => simp
                        · have p1 := run_part hb hi h1 x (fun _ => rfl) w
                          have p2 := run_part hb hi h2 y (fun _ => rfl) w
                          simp only [Bool.false_eq_true, if_false] at p1 p2
                          simp only [Sem.run_bind, p1, p2, hq, Result.andThen]
                          cases andL q with
                          | true => simpa using hr
                          | false => simp

theorem run_agg_equal {t : TypeId} {xs ys : List Value} {bs : List Bool} (hb : isAggB P t = some true) (h : eqN P t xs ys = some bs) (w : World) : (Op.equal t (.agg xs.toArray) (.agg ys.toArray)).run P w = .ok (andL bs) w := by
  unfold eqN at h
  cases h1 : eqT P 6 t xs ys with
  | none => rw [h1] at h; cases h
  | some l =>
    rw [h1] at h
    have := flat_eq _ _ h
    subst this
    unfold Op.equal
    rcases eqT_run 6 9994 t xs ys bs w h1 with ⟨_, h2⟩ | ⟨h2, _⟩
    · exact h2
    · rw [hb] at h2; cases h2
theorem run_agg_guard {t : TypeId} {x y : Operand} {xs ys : Array Value} (hg : P.eqGuardType P.depth t = false) (op : BinOp) (hop : op = .eql ∨ op = .neq) (w : World) : (eqGuard op t x y (.agg xs) (.agg ys)).run P w = .ok () w := by
  rcases hop with rfl | rfl <;> simp [eqGuard, hg]
theorem pr_aggeq {x y : Operand} {t u : TypeId} {xs ys : List Value} {bs : List Bool} (hx : ev F x = some (.agg xs.toArray)) (hy : ev F y = some (.agg ys.toArray)) (hb : isAggB P t = some true) (hg : P.eqGuardType P.depth t = false) (h : eqN P t xs ys = some bs) : PR P n F C (.binOp .eql t x y u) (.bool (andL bs)) :=
  pr_eql_of hx hy (run_agg_guard hg .eql (.inl rfl)) rfl (fun w _ => run_agg_equal hb h w)
theorem pr_aggne {x y : Operand} {t u : TypeId} {xs ys : List Value} {bs : List Bool} (hx : ev F x = some (.agg xs.toArray)) (hy : ev F y = some (.agg ys.toArray)) (hb : isAggB P t = some true) (hg : P.eqGuardType P.depth t = false) (h : eqN P t xs ys = some bs) : PR P n F C (.binOp .neq t x y u) (.bool (!andL bs)) :=
  pr_neq_of hx hy (run_agg_guard hg .neq (.inr rfl)) rfl (fun w _ => run_agg_equal hb h w)

/-- a field of a struct that is a value -/
theorem pr_field {x : Operand} {s : TypeId} {f : Nat} {xs a : List Value} {fs : Array Field} {fd : Field} {b : Bool} {i : TypeInfo} (hu : P.underlying s = some (.struct fs)) (hf : fs.toList[f]? = some fd) (hx : ev F x = some (.agg xs.toArray)) (hb : isAggB P fd.type = some b) (hi : P.info? fd.type = some i)
    (hs : subl xs fd.offset i.size = some a) (v : Value) (hv : b = false → a = [v]) : PR P n F C (.field s x f) (if b then .agg a.toArray else v) := fun _ _ _ _ _ ac w ha _ => by
  have hf' : fs[f]? = some fd := by simpa using hf
  have : (Instr.field s (.agg xs.toArray) f).run P w = .ok (if b then .agg a.toArray else v) w := by
    unfold Instr.field
    simp only [Sem.run_bind, run_underlying hu, Result.andThen, hf']
    have e0 : (asAgg (.agg xs.toArray) : Sem (Array Value)).run P w = .ok xs.toArray w := rfl
    simp only [Sem.run_bind, e0, Result.andThen]
    exact run_part hb hi hs v hv w
  simp only [execOp, ha.ev hx, Sem.run_bind, this, Result.andThen]
  rfl

theorem pr_field1 {x : Operand} {s : TypeId} {f : Nat} {xs : List Value} {fs : Array Field} {fd : Field} {i : TypeInfo} {v : Value} (hx : ev F x = some (.agg xs.toArray)) (hu : P.underlying s = some (.struct fs)) (hf : fs.toList[f]? = some fd) (hb : isAggB P fd.type = some false) (hi : P.info? fd.type = some i)
    (hs : subl xs fd.offset i.size = some [v]) : PR P n F C (.field s x f) v := pr_field hu hf hx hb hi hs v (fun _ => rfl)
theorem pr_fieldN {x : Operand} {s : TypeId} {f : Nat} {xs a : List Value} {fs : Array Field} {fd : Field} {i : TypeInfo} (hx : ev F x = some (.agg xs.toArray)) (hu : P.underlying s = some (.struct fs)) (hf : fs.toList[f]? = some fd) (hb : isAggB P fd.type = some true) (hi : P.info? fd.type = some i)
    (hs : subl xs fd.offset i.size = some a) : PR P n F C (.field s x f) (.agg a.toArray) := pr_field hu hf hx hb hi hs undef (fun e => by cases e)

/-! ### bits -/
theorem pr_bitop {op : BinOp} {x y : Operand} {k : IntKind} {p q r : Int} {t u : TypeId} (hop : op = .and ∨ op = .or ∨ op = .xor ∨ op = .andNot) (hx : ev F x = some (.int k p)) (hy : ev F y = some (.int k q)) (hr : bits op k p q = r) : PR P n F C (.binOp op t x y u) (.int k r) := by
  subst hr
  refine pr_bits hop hx hy fun w => ?_
  rcases hop with rfl | rfl | rfl | rfl <;> rfl
theorem pr_and {x y : Operand} {k : IntKind} {p q r : Int} {t u : TypeId} (hx : ev F x = some (.int k p)) (hy : ev F y = some (.int k q)) (hr : bits .and k p q = r) : PR P n F C (.binOp .and t x y u) (.int k r) := pr_bitop (.inl rfl) hx hy hr
theorem pr_or {x y : Operand} {k : IntKind} {p q r : Int} {t u : TypeId} (hx : ev F x = some (.int k p)) (hy : ev F y = some (.int k q)) (hr : bits .or k p q = r) : PR P n F C (.binOp .or t x y u) (.int k r) := pr_bitop (.inr (.inl rfl)) hx hy hr
theorem pr_xor {x y : Operand} {k : IntKind} {p q r : Int} {t u : TypeId} (hx : ev F x = some (.int k p)) (hy : ev F y = some (.int k q)) (hr : bits .xor k p q = r) : PR P n F C (.binOp .xor t x y u) (.int k r) := pr_bitop (.inr (.inr (.inl rfl))) hx hy hr
theorem pr_andnot {x y : Operand} {k : IntKind} {p q r : Int} {t u : TypeId} (hx : ev F x = some (.int k p)) (hy : ev F y = some (.int k q)) (hr : bits .andNot k p q = r) : PR P n F C (.binOp .andNot t x y u) (.int k r) := pr_bitop (.inr (.inr (.inr rfl))) hx hy hr
theorem pr_shlv {x y : Operand} {k k' : IntKind} {p q r : Int} {t u : TypeId} (hx : ev F x = some (.int k p)) (hy : ev F y = some (.int k' q)) (h0 : 0 ≤ q) (h1 : q ≤ k.bits) (hr : k.wrap (p * 2 ^ q.toNat) = r) : PR P n F C (.binOp .shl t x y u) (.int k r) :=
  pr_shl hx hy h0 (by rw [Nat.min_eq_left (by omega)]; exact hr)
theorem pr_shrv {x y : Operand} {k k' : IntKind} {p q r : Int} {t u : TypeId} (hx : ev F x = some (.int k p)) (hy : ev F y = some (.int k' q)) (h0 : 0 ≤ q) (h1 : q ≤ k.bits) (hr : p / 2 ^ q.toNat = r) : PR P n F C (.binOp .shr t x y u) (.int k r) :=
  pr_shr hx hy h0 (by rw [Nat.min_eq_left (by omega), Int.fdiv_eq_ediv_of_nonneg _ (Int.pow_nonneg (by decide))]; exact hr)

/-! ### functions as values -/
theorem pr_makeFunc {g : Fn} {xs ys : List Operand} {fv caps : List Value} (hx : evs F xs = some fv) (hy : evs F ys = some caps) : PR P n F C (.makeFunc g xs.toArray ys.toArray) (.func g fv.toArray caps.toArray) := fun _ _ _ _ _ a w ha _ => by
  simp [execOp, Instr.makeFunc, evs_map ha xs fv hx, evs_map ha ys caps hy]
/-- a text behind bytes that one owns -/
theorem At.append_str {ops : Array Oper} {rest : List Oper} {d : Nat} {x y : Operand} {t tx E : TypeId} {ty : TypeId} {pos : String} {aft : Array Edge} {ln : Nat} {p : Option Addr} {c : Nat} {l : List Int} {l2 : List UInt8} {Rs' : List Res}
    (hx : ev F x = some (.slice p ln c)) (hy : ev F y = some (.string (str l2))) (hp : Pick Rs (.own fb 1 E p c l) Rs') (ht : P.underlying t = some (.slice E)) (ht2 : P.underlying tx = some .string) (he : elemB P E 1 = true)
    (hln : ln = l.length) (hsm : l.length + l2.length ≤ 34359738368) (hd : Nat.blt d n = true)
    (h : ∀ p' c', At n w0 ((d, .slice p' (l ++ l2.map bI).length c') :: F) m (.own fb 1 E p' c' (l ++ l2.map bI) :: Rs') (wpList P ops Q rest)) :
    At n w0 F m Rs (wpList P ops Q (⟨some d, .call ⟨.builtin .append, #[x, y], #[t, tx]⟩, ty, pos, aft, none⟩ :: rest)) :=
  At.append (f := fb) (l2 := l2.map bI) inferInstance hp ht he hx hln hy (fun w hw => by
    have hr : ∀ w, (Builtin.firstCells 1 (l2.map bI).length (.string (str l2))).run P w = .ok ((l2.map bI).flatMap fb).toArray w := fun w => by
      have : ((l2.map bI).flatMap fb).toArray = ((str l2).extract 0 l2.length).data.map (fun b => Value.int .u8 b.toNat) := by
        rw [str_extract, List.take_length, List.drop_zero]
        simp [str, fb, bI, List.flatMap_map, List.flatMap_singleton']
        rw [← List.map_eq_flatMap]
      rw [this]
      simp [Builtin.firstCells, Sem.run]
    exact ⟨.inr ht2, fun w' => by rw [List.length_map, ← str_size l2]; rfl, hr w, hr w.drew, by rw [flatMap_length (f := fb) (sz := 1) (fun _ => rfl)], fun u hu => by
      obtain ⟨x, _, hx⟩ := List.mem_flatMap.1 hu
      simp at hx; subst hx; rfl⟩) (by simpa using hsm) hd h
theorem At.callf {ops : Array Oper} {rest : List Oper} {d : Option Nat} {g : FuncId} {x : Operand} {xs : List Operand} {ts : Array TypeId} {ty : TypeId} {pos : String} {aft : Array Edge} {fv caps vs : List Value} {A Rest : List Res} {R : Value → Mem → List Res → Prop}
    (hf : ev F x = some (.func (.func g) fv.toArray caps.toArray)) (hg : goFn P g = true) (hx : evs F xs = some vs) (hd : d.all (Nat.blt · n) = true) (hc : Ct P g (fv ++ vs ++ caps).toArray m A R) (hA : Take A Rs Rest)
    (h : ∀ v m' B, m.le m' → R v m' B → At n w0 (d.elim F (fun d => (d, v) :: F)) m' (B ++ Rest) (wpList P ops Q rest)) :
    At n w0 F m Rs (wpList P ops Q (⟨d, .call ⟨.value x, xs.toArray, ts⟩, ty, pos, aft, none⟩ :: rest)) := fun a w ha hw =>
  wpList_plain rfl fun K hK => by
    unfold Oper.wp
    have : (execOp a.eval ⟨d, .call ⟨.value x, xs.toArray, ts⟩, ty, pos, aft, none⟩).run P w = .ok (.enter g (fv ++ vs ++ caps).toArray) w := by
      have e0 : (Deferred.ofValue (.func (.func g) fv.toArray caps.toArray) (xs.toArray.map a.eval)).run P w = .ok { target := .fn (.func g) caps.toArray, args := fv.toArray ++ xs.toArray.map a.eval } w := rfl
      simp only [execOp, resolve, ha.ev hf, Sem.run_bind, e0, Result.andThen, invoke]
      have : (fv.toArray ++ xs.toArray.map a.eval ++ caps.toArray : Array Value) = (fv ++ vs ++ caps).toArray := by simp [evs_map ha xs vs hx]
      rw [this, run_callFunc hg]
    rw [this]
    refine (hc w0 Rest w (hw.ent hA.eqv.ent)).mono ?_
    rintro e w' ⟨v, m', B, rfl, hm, hR, hw'⟩
    refine hK _ _ (h v m' B hm hR _ _ ?_ hw')
    cases d with
    | none => exact ha
    | some d => exact ha.put (by simpa using hd)
end
end Go.J
